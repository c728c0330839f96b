/- RefL9, RefL10 in one text. -/
import Derived.Test.YtofjopdcbmaijaaGreatRefLK4
import Derived.Test.YtofjopdcbmaijaaGreatLaidK3
import Derived.Deep.DeepCutAuto
import Derived.Deep.CutBlock
namespace Go.Proofs.YtofjopdcbmaijaaGreat
open Go.RowKit
set_option maxRecDepth 20000

theorem countS_small {l : List Br} {rs : List Rn} (h : ∀ r ∈ rs, runB l r = true) : 0 ≤ countS rs ∧ countS rs ≤ 1000 * (rs.length : Int) := by
  induction rs with
  | nil => simp [countS]
  | cons r rs ih =>
    have h1 := runB_count (h r List.mem_cons_self)
    have h2 := ih fun x hx => h x (List.mem_cons_of_mem _ hx)
    simp only [countS, List.length_cons]; omega

set_option maxRecDepth 100000 in
set_option maxHeartbeats 2000000 in
theorem refCount16_c (rs : List Rn) (u : Value) (h60 : rs.length ≤ 60) (hb : ∀ r ∈ rs, 1 ≤ r.count ∧ r.count ≤ 1000) (w : World) (hr : Runs w u rs) : Calls Tryz.prog 37 #[u] w (Ret w (.int .i64 (countS rs))) := by
  have HB := Lib.hid hb
  obtain ⟨a, cap, rfl, h2, h3, h4⟩ := hr.shape
  have H4 := Lib.hid h4
  clear hr h4 hb
  go_enter Tryz.func37, Tryz.ntmps37
  go_wp2_with fail
  go_loopw [3, 4] (fun m i wr => ∃ (k : Nat) (R : Int), k ≤ rs.length ∧ i = .int .i64 k ∧ m = .int .i64 R ∧ (0 ≤ R ∧ R ≤ 1000 * (k : Int)) ∧ R = countS (rs.take k) ∧ (∃ x, wr = ext w x)) (fun _ i _ => rs.length - (intOf i).toNat)
  case atStart => exact ⟨0, 0, by omega, rfl, rfl, by omega, by simp [countS], ext_of (by (repeat (first | exact grow_refl _ | refine grow_ext _ ?_ | refine grow_alloc _ ?_ | refine grow_drew ?_)))⟩
  case round =>
    obtain ⟨k, R, hk, rfl, rfl, hR, hc, ⟨x, rfl⟩⟩ := hrel
    have HC := Lib.hid hc
    obtain ⟨R0, R1⟩ := hR
    clear hc
    by_cases hlt : k < rs.length
    · obtain ⟨_, b0, off, rfl, hbr⟩ := H4.out k hlt
      have q1 : (0 : Int) ≤ (k : Int) := by omega
      have q2 : (k : Int) < (rs.length : Int) := by omega
      have hct := count_take hlt
      have hcb := HB.out _ (List.getElem_mem hlt)
      obtain ⟨r, hr⟩ : ∃ r, rs[k] = r := ⟨_, rfl⟩
      rw [hr] at hct hbr hcb
      obtain ⟨c0, c1, c2, c3, c4, c5, c6, c7, c8, c9⟩ := hbr.ext x
      have hsum : 0 ≤ R + r.count ∧ R + r.count ≤ 1000 * ((k + 1 : Nat) : Int) := by omega
      have HCT := Lib.hid (show R + r.count = countS (rs.take (k + 1)) by rw [hct, HC.out])
      clear hr hbr hct
      go_wp2
      go_roundw
      case rel => exact ⟨k + 1, R + r.count, by omega, by go_num, rfl, hsum, HCT.out, ext_of (by (repeat (first | exact grow_refl _ | refine grow_ext _ ?_ | refine grow_alloc _ ?_ | refine grow_drew ?_)))⟩
      case measure => simp [intOf]; omega
    · obtain rfl : k = rs.length := by omega
      obtain rfl : R = countS rs := by rw [HC.out, List.take_length]
      go_wp2
      go_ret
      exact Ret.of (by (repeat (first | exact grow_refl _ | refine grow_ext _ ?_ | refine grow_alloc _ ?_ | refine grow_drew ?_)))

set_option maxRecDepth 100000 in
set_option maxHeartbeats 2000000 in
theorem refLaid_v (l : List Br) (rs : List Rn) (v u : Value) (q : Bool) (hq : laidB l rs = q) (w : World) (hl : Bars w v l) (hr : Runs w u rs) : Calls Tryz.prog 10 #[v, u] w (Ret w (.bool q)) := by
  have HL := Lib.hid hl
  have HR := Lib.hid hr
  have HQ := Lib.hid hq
  obtain ⟨a, cap, rfl, h2, h3, h4⟩ := hr.shape
  have H4 := Lib.hid h4
  clear hl hr hq h4
  cases hs : schedB l
  · obtain rfl : false = q := by rw [← HQ.out]; unfold laidB; rw [hs]; rfl
    have HS := Lib.hid hs
    clear hs
    go_enter Tryz.func10, Tryz.ntmps10
    go_wp2_with fail
    go_at_call 35; refine (ref14Valid_v l v _ HS.out _ (HL.out.below (by (repeat (first | exact grow_refl _ | refine grow_ext _ ?_ | refine grow_alloc _ ?_ | refine grow_drew ?_))))).mono ?_; rintro e w' ⟨rfl, x1, rfl⟩
    go_wp2
    go_ret
    exact Ret.of (by (repeat (first | exact grow_refl _ | refine grow_ext _ ?_ | refine grow_alloc _ ?_ | refine grow_drew ?_)))
  · have HB := Lib.hid (schedB_shape hs)
    have HS := Lib.hid hs
    clear hs
    by_cases h60 : rs.length ≤ 60
    · have d1 : decide ((60 : Int) < (rs.length : Int)) = false := by simp; omega
      go_enter Tryz.func10, Tryz.ntmps10
      go_wp2_with fail
      go_at_call 35; refine (ref14Valid_v l v _ HS.out _ (HL.out.below (by (repeat (first | exact grow_refl _ | refine grow_ext _ ?_ | refine grow_alloc _ ?_ | refine grow_drew ?_))))).mono ?_; rintro e w' ⟨rfl, x1, rfl⟩
      go_wp2_with fail
      go_loopw [5] (fun i wr => ∃ (k : Nat), k ≤ rs.length ∧ i = .int .i64 k ∧ (∃ x, wr = ext w x) ∧ ∀ r ∈ rs.take k, runB l r = true) (fun i _ => rs.length - (intOf i).toNat)
      case atStart => exact ⟨0, by omega, rfl, ext_of (by (repeat (first | exact grow_refl _ | refine grow_ext _ ?_ | refine grow_alloc _ ?_ | refine grow_drew ?_))), fun r h => by cases h⟩
      case round =>
        obtain ⟨k, hk, rfl, ⟨x, rfl⟩, hno⟩ := hrel
        have HNO := Lib.hid hno
        clear hno
        by_cases hlt : k < rs.length
        · obtain ⟨_, b0, off, rfl, hbr⟩ := H4.out k hlt
          have q1 : (0 : Int) ≤ (k : Int) := by omega
          have q2 : (k : Int) < (rs.length : Int) := by omega
          have htk : rs.take (k + 1) = rs.take k ++ [rs[k]] := List.take_succ_eq_append_getElem hlt
          have hrf : runB l rs[k] = false → laidB l rs = false := laidB_run_false hlt
          obtain ⟨r, hr⟩ : ∃ r, rs[k] = r := ⟨_, rfl⟩
          rw [hr] at htk hbr hrf
          obtain ⟨c0, c1, c2, c3, c4, c5, c6, c7, c8, c9⟩ := hbr.ext x
          have HTK := Lib.hid htk
          have HRF := Lib.hid hrf
          clear hr hbr htk hrf
          cases hs : runB l r
          · obtain rfl : false = q := by rw [← HQ.out]; exact (HRF.out hs).symm
            have HRU := Lib.hid hs
            clear hs
            go_wp2_with fail
            go_at_call 36; refine (refRun_v l v r _ HRU.out HB.out _ (HL.out.below (by (repeat (first | exact grow_refl _ | refine grow_ext _ ?_ | refine grow_alloc _ ?_ | refine grow_drew ?_))))).mono ?_; rintro e w' ⟨rfl, y1, rfl⟩
            go_wp2
            go_ret
            exact Ret.of (by (repeat (first | exact grow_refl _ | refine grow_ext _ ?_ | refine grow_alloc _ ?_ | refine grow_drew ?_)))
          · have HRU := Lib.hid hs
            clear hs
            go_wp2_with fail
            go_at_call 36; refine (refRun_v l v r _ HRU.out HB.out _ (HL.out.below (by (repeat (first | exact grow_refl _ | refine grow_ext _ ?_ | refine grow_alloc _ ?_ | refine grow_drew ?_))))).mono ?_; rintro e w' ⟨rfl, y1, rfl⟩
            go_wp2
            go_roundw
            case rel => exact ⟨k + 1, by omega, by go_num, ext_of (by (repeat (first | exact grow_refl _ | refine grow_ext _ ?_ | refine grow_alloc _ ?_ | refine grow_drew ?_))), fun z hz => by
              rw [HTK.out] at hz
              rcases List.mem_append.1 hz with h | h
              · exact HNO.out z h
              · obtain rfl : z = r := by simpa using h
                exact HRU.out⟩
            case measure => simp [intOf]; omega
        · obtain rfl : k = rs.length := by omega
          have h2' := HNO.out
          rw [List.take_length] at h2'
          have hct := countS_small h2'
          have hd : decide (countS rs ≤ 2000) = q := by
            rw [← HQ.out]; unfold laidB
            rw [HS.out, decide_eq_true h60, List.all_eq_true.2 h2']; rfl
          have HA := Lib.hid h2'
          clear h2'
          go_wp2_with fail
          go_at_call 37; refine (refCount16_c rs _ h60 (fun r h => runB_count (HA.out r h)) _ (HR.out.below (by (repeat (first | exact grow_refl _ | refine grow_ext _ ?_ | refine grow_alloc _ ?_ | refine grow_drew ?_))))).mono ?_; rintro e w' ⟨rfl, y2, rfl⟩
          go_wp2
          go_ret
          exact Ret.of (by (repeat (first | exact grow_refl _ | refine grow_ext _ ?_ | refine grow_alloc _ ?_ | refine grow_drew ?_)))
    · have d1 : decide ((60 : Int) < (rs.length : Int)) = true := by simp; omega
      obtain rfl : false = q := by rw [← HQ.out]; unfold laidB; rw [decide_eq_false h60, Bool.false_and, Bool.and_false]
      go_enter Tryz.func10, Tryz.ntmps10
      go_wp2_with fail
      go_at_call 35; refine (ref14Valid_v l v _ HS.out _ (HL.out.below (by (repeat (first | exact grow_refl _ | refine grow_ext _ ?_ | refine grow_alloc _ ?_ | refine grow_drew ?_))))).mono ?_; rintro e w' ⟨rfl, x1, rfl⟩
      go_wp2
      go_ret
      exact Ret.of (by (repeat (first | exact grow_refl _ | refine grow_ext _ ?_ | refine grow_alloc _ ?_ | refine grow_drew ?_)))

end Go.Proofs.YtofjopdcbmaijaaGreat

namespace Go.Proofs.YtofjopdcbmaijaaGreat
open Go.RowKit
set_option maxRecDepth 20000

def shortB (b : Br) : Bool := decide (b.dims.length ≤ 8) && decide (b.mark.size ≤ 60)

set_option maxHeartbeats 2000000 in
theorem refShort_v (b : Br) (r : Bool) (h : shortB b = r) (w : World) (hb : BrOk w b) : Calls Tryz.prog 70 #[(.agg #[.string b.mark, .int .i64 b.size, .int .i64 b.count, .int .i64 b.code, b.dv])] w (Ret w (.bool r)) := by
  obtain ⟨a, cap, ev, _, _, _⟩ := hb.dims
  have hm := hb.mark
  unfold shortB at h
  clear hb
  obtain ⟨mark, size, count, code, dims, dv⟩ := b
  simp only at *
  subst ev
  by_cases h1 : dims.length ≤ 8
  · have d1 : decide ((dims.length : Int) ≤ 8) = true := by simp; omega
    rw [decide_eq_true h1, Bool.true_and] at h
    have d2 : decide ((mark.size : Int) ≤ 60) = r := by rw [← h]; apply decide_eq_decide.2; omega
    clear h
    go_enter Tryz.func70, Tryz.ntmps70
    go_wp2
    go_ret
    exact Ret.of (by (repeat (first | exact grow_refl _ | refine grow_ext _ ?_ | refine grow_alloc _ ?_ | refine grow_drew ?_)))
  · have d1 : decide ((dims.length : Int) ≤ 8) = false := by simp; omega
    rw [decide_eq_false h1, Bool.false_and] at h
    subst h
    go_enter Tryz.func70, Tryz.ntmps70
    go_wp2
    go_ret
    exact Ret.of (by (repeat (first | exact grow_refl _ | refine grow_ext _ ?_ | refine grow_alloc _ ?_ | refine grow_drew ?_)))

theorem refIsLen_v (x : Int) (r : Bool) (h : decide (-1048576 ≤ x ∧ x ≤ 1048576) = r) (w : World) : Calls Tryz.prog 11 #[.int .i64 x] w (Ret w (.bool r)) := by
  by_cases h1 : -1048576 ≤ x
  · have d1 : decide ((-1048576 : Int) ≤ x) = true := by simpa using h1
    have d2 : decide (x ≤ 1048576) = r := by rw [← h]; apply decide_eq_decide.2; omega
    clear h
    go_enter Tryz.func11, Tryz.ntmps11
    go_wp2
    go_ret
    exact Ret.of (by (repeat (first | exact grow_refl _ | refine grow_ext _ ?_ | refine grow_alloc _ ?_ | refine grow_drew ?_)))
  · have d1 : decide ((-1048576 : Int) ≤ x) = false := by simpa using h1
    obtain rfl : false = r := by rw [← h]; symm; simp; omega
    clear h
    go_enter Tryz.func11, Tryz.ntmps11
    go_wp2
    go_ret
    exact Ret.of (by (repeat (first | exact grow_refl _ | refine grow_ext _ ?_ | refine grow_alloc _ ?_ | refine grow_drew ?_)))

/-- Some Bool comes back. -/
def RetB (w : World) : Ending → World → Prop := fun e W => ∃ q, e = .returned (.bool q) ∧ ∃ x, W = ext w x
/-- Some Bool comes back; if it is true, then few bars are laid. -/
def RetSm (w : World) (rs : List Rn) (m : Int) : Ending → World → Prop := fun e W => ∃ q, e = .returned (.bool q) ∧ (q = true → (∀ r ∈ rs, 1 ≤ r.count ∧ r.count ≤ 1000) → rs.length ≤ 60 → countS rs ≤ m) ∧ ∃ x, W = ext w x

set_option maxRecDepth 100000 in
set_option maxHeartbeats 8000000 in
theorem refSmall16s_c (l : List Br) (rs : List Rn) (v u : Value) (n m : Int) (_ : 0 ≤ n ∧ n ≤ 100) (hm : 0 ≤ m ∧ m ≤ 100) (w : World) (hl : Bars w v l) (hr : Runs w u rs) :
    Calls Tryz.prog 32 #[v, u, .int .i64 n, .int .i64 m] w (RetSm w rs m) := by
  obtain ⟨b, bcap, rfl, g2, g3, g4⟩ := hl.shape
  have G4 := Lib.hid g4
  obtain ⟨a, cap, rfl, h2, h3, h4⟩ := hr.shape
  have H4 := Lib.hid h4
  clear hr h4 hl g4
  go_enter Tryz.func32, Tryz.ntmps32
  go_upto_region 1 with fail
  go_cut [41] (fun s wx => ∃ q0, s = .bool q0 ∧ (q0 = false → l.length ≤ 63 ∧ rs.length ≤ 63 ∧ ((rs.length : Int) ≤ n ∨ 60 < rs.length)) ∧ ∃ x, wx = ext w x)
  case first =>
    cases e1 : decide (n < (l.length : Int))
    · skip
      cases e3 : decide (63 < (l.length : Int))
      · skip
        cases e4 : decide (n < (rs.length : Int))
        · skip
          cases e6 : decide (63 < (rs.length : Int))
          · skip
            go_wp2
            go_meet
            exact ⟨_, rfl, fun h => by first | (cases h; done) | (simp at *; omega), ext_of (by (repeat (first | exact grow_refl _ | refine grow_ext _ ?_ | refine grow_alloc _ ?_ | refine grow_drew ?_)))⟩
          · skip
            go_wp2
            go_meet
            exact ⟨_, rfl, fun h => by first | (cases h; done) | (simp at *; omega), ext_of (by (repeat (first | exact grow_refl _ | refine grow_ext _ ?_ | refine grow_alloc _ ?_ | refine grow_drew ?_)))⟩
        · skip
          cases e5 : decide ((rs.length : Int) ≤ 60)
          · skip
            cases e6 : decide (63 < (rs.length : Int))
            · skip
              go_wp2
              go_meet
              exact ⟨_, rfl, fun h => by first | (cases h; done) | (simp at *; omega), ext_of (by (repeat (first | exact grow_refl _ | refine grow_ext _ ?_ | refine grow_alloc _ ?_ | refine grow_drew ?_)))⟩
            · skip
              go_wp2
              go_meet
              exact ⟨_, rfl, fun h => by first | (cases h; done) | (simp at *; omega), ext_of (by (repeat (first | exact grow_refl _ | refine grow_ext _ ?_ | refine grow_alloc _ ?_ | refine grow_drew ?_)))⟩
          · skip
            go_wp2
            go_meet
            exact ⟨_, rfl, fun h => by first | (cases h; done) | (simp at *; omega), ext_of (by (repeat (first | exact grow_refl _ | refine grow_ext _ ?_ | refine grow_alloc _ ?_ | refine grow_drew ?_)))⟩
      · skip
        go_wp2
        go_meet
        exact ⟨_, rfl, fun h => by first | (cases h; done) | (simp at *; omega), ext_of (by (repeat (first | exact grow_refl _ | refine grow_ext _ ?_ | refine grow_alloc _ ?_ | refine grow_drew ?_)))⟩
    · skip
      cases e2 : decide ((l.length : Int) ≤ 60)
      · skip
        cases e3 : decide (63 < (l.length : Int))
        · skip
          cases e4 : decide (n < (rs.length : Int))
          · skip
            cases e6 : decide (63 < (rs.length : Int))
            · skip
              go_wp2
              go_meet
              exact ⟨_, rfl, fun h => by first | (cases h; done) | (simp at *; omega), ext_of (by (repeat (first | exact grow_refl _ | refine grow_ext _ ?_ | refine grow_alloc _ ?_ | refine grow_drew ?_)))⟩
            · skip
              go_wp2
              go_meet
              exact ⟨_, rfl, fun h => by first | (cases h; done) | (simp at *; omega), ext_of (by (repeat (first | exact grow_refl _ | refine grow_ext _ ?_ | refine grow_alloc _ ?_ | refine grow_drew ?_)))⟩
          · skip
            cases e5 : decide ((rs.length : Int) ≤ 60)
            · skip
              cases e6 : decide (63 < (rs.length : Int))
              · skip
                go_wp2
                go_meet
                exact ⟨_, rfl, fun h => by first | (cases h; done) | (simp at *; omega), ext_of (by (repeat (first | exact grow_refl _ | refine grow_ext _ ?_ | refine grow_alloc _ ?_ | refine grow_drew ?_)))⟩
              · skip
                go_wp2
                go_meet
                exact ⟨_, rfl, fun h => by first | (cases h; done) | (simp at *; omega), ext_of (by (repeat (first | exact grow_refl _ | refine grow_ext _ ?_ | refine grow_alloc _ ?_ | refine grow_drew ?_)))⟩
            · skip
              go_wp2
              go_meet
              exact ⟨_, rfl, fun h => by first | (cases h; done) | (simp at *; omega), ext_of (by (repeat (first | exact grow_refl _ | refine grow_ext _ ?_ | refine grow_alloc _ ?_ | refine grow_drew ?_)))⟩
        · skip
          go_wp2
          go_meet
          exact ⟨_, rfl, fun h => by first | (cases h; done) | (simp at *; omega), ext_of (by (repeat (first | exact grow_refl _ | refine grow_ext _ ?_ | refine grow_alloc _ ?_ | refine grow_drew ?_)))⟩
      · skip
        go_wp2
        go_meet
        exact ⟨_, rfl, fun h => by first | (cases h; done) | (simp at *; omega), ext_of (by (repeat (first | exact grow_refl _ | refine grow_ext _ ?_ | refine grow_alloc _ ?_ | refine grow_drew ?_)))⟩
  case rest =>
    obtain ⟨q0, rfl, hq0, x0, rfl⟩ := hcut
    cases q0
    · obtain ⟨l63, r63, hn60⟩ := hq0 rfl
      have HN6 := Lib.hid hn60
      clear hq0 hn60
      go_wp2_with fail
      go_loopw [9] (fun i wr => ∃ (k : Nat), k ≤ l.length ∧ i = .int .i64 k ∧ (∃ x, wr = ext w x)) (fun i _ => l.length - (intOf i).toNat)
      case atStart => exact ⟨0, by omega, rfl, ext_of (by (repeat (first | exact grow_refl _ | refine grow_ext _ ?_ | refine grow_alloc _ ?_ | refine grow_drew ?_)))⟩
      case round =>
        obtain ⟨k, hk, rfl, ⟨x, rfl⟩⟩ := hrel
        by_cases hlt : k < l.length
        · obtain ⟨hok, b0, off, rfl, hbr⟩ := G4.out k hlt
          have q1 : (0 : Int) ≤ (k : Int) := by omega
          have q2 : (k : Int) < (l.length : Int) := by omega
          obtain ⟨c, hc⟩ : ∃ c, l[k] = c := ⟨_, rfl⟩
          rw [hc] at hbr hok
          obtain ⟨c0, c1, c2, c3, c4⟩ := hbr.ext x
          have HOK := Lib.hid hok
          clear hc hbr hok
          cases hs : shortB c
          all_goals
            have HS := Lib.hid hs
            clear hs
            go_wp2_with fail
            go_at_call 70; refine (refShort_v c _ HS.out _ (HOK.out.below (by (repeat (first | exact grow_refl _ | refine grow_ext _ ?_ | refine grow_alloc _ ?_ | refine grow_drew ?_))))).mono ?_; rintro e w' ⟨rfl, y1, rfl⟩
            go_wp2
          · go_ret
            exact ⟨_, rfl, fun h => (by cases h), ext_of (by (repeat (first | exact grow_refl _ | refine grow_ext _ ?_ | refine grow_alloc _ ?_ | refine grow_drew ?_)))⟩
          · go_roundw
            case rel => exact ⟨k + 1, by omega, by go_num, ext_of (by (repeat (first | exact grow_refl _ | refine grow_ext _ ?_ | refine grow_alloc _ ?_ | refine grow_drew ?_)))⟩
            case measure => simp [intOf]; omega
        · obtain rfl : k = l.length := by omega
          go_wp2_with fail
          go_loopw [10, 11] (fun s i wr => ∃ (k : Nat) (R : Int), k ≤ rs.length ∧ i = .int .i64 k ∧ s = .int .i64 R ∧ (0 ≤ R ∧ R ≤ 100 * (k : Int)) ∧ ((∀ r ∈ rs, 1 ≤ r.count ∧ r.count ≤ 1000) → R = countS (rs.take k)) ∧ (∃ x, wr = ext w x)) (fun _ i _ => rs.length - (intOf i).toNat)
          case atStart => exact ⟨0, 0, by omega, rfl, rfl, by omega, fun _ => rfl, ext_of (by (repeat (first | exact grow_refl _ | refine grow_ext _ ?_ | refine grow_alloc _ ?_ | refine grow_drew ?_)))⟩
          case round =>
            obtain ⟨k, R, hk, rfl, rfl, hR, hri, ⟨x, rfl⟩⟩ := hrel
            obtain ⟨R0, R1⟩ := hR
            have HRI := Lib.hid hri
            clear hri
            by_cases hlt : k < rs.length
            · obtain ⟨hmk, b0, off, rfl, hbr⟩ := H4.out k hlt
              have q1 : (0 : Int) ≤ (k : Int) := by omega
              have q2 : (k : Int) < (rs.length : Int) := by omega
              have hct := count_take hlt
              have hme := List.getElem_mem hlt
              obtain ⟨r, hr⟩ : ∃ r, rs[k] = r := ⟨_, rfl⟩
              rw [hr] at hbr hmk hct hme
              have HCT := Lib.hid hct
              have HME := Lib.hid hme
              obtain ⟨c0, c1, c2, c3, c4, c5, c6, c7, c8, c9⟩ := hbr.ext x
              clear hr hbr hct hme
              cases f1 : decide (60 < (r.mark.size : Int))
              · skip
                cases f2 : decide (m < r.count)
                · skip
                  cases f4 : decide (0 < r.count)
                  · skip
                    go_wp2
                    go_roundw
                    case rel => exact ⟨k + 1, R, by omega, by go_num, rfl, by omega, fun hc => by have h1 := HRI.out hc; have h2 := HCT.out; have h3 := hc _ HME.out; have p_f2 := of_decide_eq_false f2; have p_f4 := of_decide_eq_false f4; omega, ext_of (by (repeat (first | exact grow_refl _ | refine grow_ext _ ?_ | refine grow_alloc _ ?_ | refine grow_drew ?_)))⟩
                    case measure => simp [intOf]; omega
                  · skip
                    cases f5 : decide (r.count ≤ m)
                    · skip
                      go_wp2
                      go_roundw
                      case rel => exact ⟨k + 1, R, by omega, by go_num, rfl, by omega, fun hc => by have h1 := HRI.out hc; have h2 := HCT.out; have h3 := hc _ HME.out; have p_f2 := of_decide_eq_false f2; have p_f5 := of_decide_eq_false f5; omega, ext_of (by (repeat (first | exact grow_refl _ | refine grow_ext _ ?_ | refine grow_alloc _ ?_ | refine grow_drew ?_)))⟩
                      case measure => simp [intOf]; omega
                    · skip
                      have p1 : 0 < r.count := by simpa using f4
                      have p2 : r.count ≤ m := by simpa using f5
                      go_wp2
                      go_roundw
                      case rel => exact ⟨k + 1, R + r.count, by omega, by go_num, rfl, by omega, fun hc => by have h1 := HRI.out hc; have h2 := HCT.out; have h3 := hc _ HME.out; omega, ext_of (by (repeat (first | exact grow_refl _ | refine grow_ext _ ?_ | refine grow_alloc _ ?_ | refine grow_drew ?_)))⟩
                      case measure => simp [intOf]; omega
                · skip
                  cases f3 : decide (r.count ≤ 2000)
                  · skip
                    cases f4 : decide (0 < r.count)
                    · skip
                      go_wp2
                      go_roundw
                      case rel => exact ⟨k + 1, R, by omega, by go_num, rfl, by omega, fun hc => by have h1 := HRI.out hc; have h2 := HCT.out; have h3 := hc _ HME.out; have p_f3 := of_decide_eq_false f3; omega, ext_of (by (repeat (first | exact grow_refl _ | refine grow_ext _ ?_ | refine grow_alloc _ ?_ | refine grow_drew ?_)))⟩
                      case measure => simp [intOf]; omega
                    · skip
                      cases f5 : decide (r.count ≤ m)
                      · skip
                        go_wp2
                        go_roundw
                        case rel => exact ⟨k + 1, R, by omega, by go_num, rfl, by omega, fun hc => by have h1 := HRI.out hc; have h2 := HCT.out; have h3 := hc _ HME.out; have p_f3 := of_decide_eq_false f3; omega, ext_of (by (repeat (first | exact grow_refl _ | refine grow_ext _ ?_ | refine grow_alloc _ ?_ | refine grow_drew ?_)))⟩
                        case measure => simp [intOf]; omega
                      · skip
                        have p1 : 0 < r.count := by simpa using f4
                        have p2 : r.count ≤ m := by simpa using f5
                        go_wp2
                        go_roundw
                        case rel => exact ⟨k + 1, R + r.count, by omega, by go_num, rfl, by omega, fun hc => by have h1 := HRI.out hc; have h2 := HCT.out; have h3 := hc _ HME.out; have p_f3 := of_decide_eq_false f3; omega, ext_of (by (repeat (first | exact grow_refl _ | refine grow_ext _ ?_ | refine grow_alloc _ ?_ | refine grow_drew ?_)))⟩
                        case measure => simp [intOf]; omega
                  · skip
                    go_wp2
                    go_ret
                    exact ⟨_, rfl, fun h => (by cases h), ext_of (by (repeat (first | exact grow_refl _ | refine grow_ext _ ?_ | refine grow_alloc _ ?_ | refine grow_drew ?_)))⟩
              · skip
                go_wp2
                go_ret
                exact ⟨_, rfl, fun h => (by cases h), ext_of (by (repeat (first | exact grow_refl _ | refine grow_ext _ ?_ | refine grow_alloc _ ?_ | refine grow_drew ?_)))⟩
            · obtain rfl : k = rs.length := by omega
              cases g1 : decide (R ≤ m)
              · cases g2 : decide (n < (rs.length : Int))
                all_goals
                  go_wp2
                  go_ret
                  exact ⟨_, rfl, fun h _ h60 => by first | (cases h; done) | (have := of_decide_eq_true g2; have := HN6.out; omega), ext_of (by (repeat (first | exact grow_refl _ | refine grow_ext _ ?_ | refine grow_alloc _ ?_ | refine grow_drew ?_)))⟩
              · go_wp2
                go_ret
                exact ⟨_, rfl, fun _ hc _ => by (have h1 := HRI.out hc; rw [List.take_length] at h1; have := of_decide_eq_true g1; omega), ext_of (by (repeat (first | exact grow_refl _ | refine grow_ext _ ?_ | refine grow_alloc _ ?_ | refine grow_drew ?_)))⟩
    · clear hq0
      go_wp2
      go_ret
      exact ⟨_, rfl, fun h => (by cases h), ext_of (by (repeat (first | exact grow_refl _ | refine grow_ext _ ?_ | refine grow_alloc _ ?_ | refine grow_drew ?_)))⟩

theorem refSmall16_c (l : List Br) (rs : List Rn) (v u : Value) (n m : Int) (hn : 0 ≤ n ∧ n ≤ 100) (hm : 0 ≤ m ∧ m ≤ 100) (w : World) (hl : Bars w v l) (hr : Runs w u rs) :
    Calls Tryz.prog 32 #[v, u, .int .i64 n, .int .i64 m] w (RetB w) :=
  (refSmall16s_c l rs v u n m hn hm w hl hr).mono fun _ _ ⟨q, h1, _, h3⟩ => ⟨q, h1, h3⟩

end Go.Proofs.YtofjopdcbmaijaaGreat

