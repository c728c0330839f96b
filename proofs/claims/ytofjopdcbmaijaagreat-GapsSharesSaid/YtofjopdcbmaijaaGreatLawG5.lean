/- GapsRows: the walk of the law. -/
import Derived.Test.YtofjopdcbmaijaaGreatRefMK
import Derived.Test.YtofjopdcbmaijaaGreatGapK3
namespace Go.Proofs.YtofjopdcbmaijaaGreat
open Go.RowKit
set_option maxRecDepth 20000

set_option maxHeartbeats 1000000 in
theorem small21g_c (l : List Br) (rs : List Rn) (v u : Value) (w : World) (hl : Bars w v l) (hr : Runs w u rs) : Calls Tryz.prog 7 #[v, u] w (RetB w) := by
  have HS := Lib.hid (refSmall16_c l rs v u 6 16 (by omega) (by omega) w hl hr)
  clear hl hr
  go_enter Tryz.func7, Tryz.ntmps7
  go_wp2_with fail
  go_at_call 32; refine HS.out.mono ?_; rintro e w' ⟨q, rfl, x, rfl⟩
  go_wp2
  go_ret
  exact ⟨_, rfl, ext_of (by (repeat (first | exact grow_refl _ | refine grow_ext _ ?_ | refine grow_alloc _ ?_ | refine grow_drew ?_)))⟩

theorem bxs_rc {w : World} {R : List Rc} {M : List Bx} (hM : R.map Rc.box = M) {err : Int} {e : Ending} {W : World} (h : RetBxs w M err e W) :
    ∃ a c, e = .returned (.tuple #[.slice a R.length c, .int .i64 err]) ∧ R.length ≤ c ∧ c ≤ 9223372036854775807 ∧ (∀ i (h : i < R.length), ∃ b off, a = some ⟨b, off, none⟩ ∧ BoxAt W b (off + i * 6) R[i].box) ∧ ∃ x, W = ext w x := by
  subst hM
  obtain ⟨a, c, e1, e2, e3, e4, e5⟩ := bxs_len h
  rw [List.length_map] at e1 e2
  refine ⟨a, c, e1, e2, e3, fun i hi => ?_, e5⟩
  have := e4 i (by rw [List.length_map]; exact hi)
  rw [List.getElem_map] at this
  exact this
theorem bxs_none {w : World} {err : Int} {e : Ending} {W : World} (h : RetBxs w [] err e W) :
    ∃ a c, e = .returned (.tuple #[.slice a 0 c, .int .i64 err]) ∧ c ≤ 9223372036854775807 ∧ ∃ x, W = ext w x := by
  obtain ⟨a, c, e1, _, e3, _, e5⟩ := bxs_len h
  exact ⟨a, c, e1, e3, e5⟩

set_option maxRecDepth 100000 in
set_option maxHeartbeats 4000000 in
theorem lawRows_ok (l : List Br) (rs : List Rn) (v u : Value) (x : Int) (w : World) (hl : Bars w v l) (hr : Runs w u rs) :
    Calls Tryz.prog 3 #[v, u, .int .i64 x] w (Ret w (.bool true)) := by
  have HL := Lib.hid hl
  have HR := Lib.hid hr
  clear hl hr
  cases hv : laidB l rs
  · have HR1 := Lib.hid (fun w hl hr => (gRow_c l rs v u x w hl hr).mono fun e W h => by
      rw [show cutsE l rs x = ([], 1) by unfold cutsE; rw [hv]; rfl] at h; exact bxs_none h)
    have HC1 := Lib.hid (fun w hl hr => gClear_v l rs v u x 0 1 (by unfold clearE cutsE; rw [hv]; rfl) w hl hr)
    have HV := Lib.hid hv
    clear hv
    go_enter Tryz.func3, Tryz.ntmps3
    go_wp2_with fail
    go_at_call 6; refine (awake21_c _).mono ?_; rintro e w' ⟨rfl, x0, rfl⟩
    go_wp2_with fail
    go_at_call 7; refine (small21g_c l rs v u _ (HL.out.below (by (repeat (first | exact grow_refl _ | refine grow_ext _ ?_ | refine grow_alloc _ ?_ | refine grow_drew ?_)))) (HR.out.below (by (repeat (first | exact grow_refl _ | refine grow_ext _ ?_ | refine grow_alloc _ ?_ | refine grow_drew ?_))))).mono ?_; rintro e w' ⟨q, rfl, x1, rfl⟩
    cases q
    · go_wp2
      go_ret
      exact Ret.of (by (repeat (first | exact grow_refl _ | refine grow_ext _ ?_ | refine grow_alloc _ ?_ | refine grow_drew ?_)))
    go_wp2_with fail
    go_at_call 8; refine (HR1.out _ (HL.out.below (by (repeat (first | exact grow_refl _ | refine grow_ext _ ?_ | refine grow_alloc _ ?_ | refine grow_drew ?_)))) (HR.out.below (by (repeat (first | exact grow_refl _ | refine grow_ext _ ?_ | refine grow_alloc _ ?_ | refine grow_drew ?_))))).mono ?_; rintro e w' ⟨a1, c1, rfl, k1, x2, rfl⟩
    go_wp2_with fail
    go_at_call 9; refine (HC1.out _ (HL.out.below (by (repeat (first | exact grow_refl _ | refine grow_ext _ ?_ | refine grow_alloc _ ?_ | refine grow_drew ?_)))) (HR.out.below (by (repeat (first | exact grow_refl _ | refine grow_ext _ ?_ | refine grow_alloc _ ?_ | refine grow_drew ?_))))).mono ?_; rintro e w' ⟨rfl, x3, rfl⟩
    go_wp2_with fail
    go_at_call 10; refine (refLaid_v l rs v u false HV.out _ (HL.out.below (by (repeat (first | exact grow_refl _ | refine grow_ext _ ?_ | refine grow_alloc _ ?_ | refine grow_drew ?_)))) (HR.out.below (by (repeat (first | exact grow_refl _ | refine grow_ext _ ?_ | refine grow_alloc _ ?_ | refine grow_drew ?_))))).mono ?_; rintro e w' ⟨rfl, x4, rfl⟩
    go_wp2
    go_ret
    exact Ret.of (by (repeat (first | exact grow_refl _ | refine grow_ext _ ?_ | refine grow_alloc _ ?_ | refine grow_drew ?_)))
  · cases hx : inI x (-1048576) 1048576
    · have HR1 := Lib.hid (fun w hl hr => (gRow_c l rs v u x w hl hr).mono fun e W h => by
        rw [show cutsE l rs x = ([], 2) by unfold cutsE; rw [hv, hx]; rfl] at h; exact bxs_none h)
      have HC1 := Lib.hid (fun w hl hr => gClear_v l rs v u x 0 2 (by unfold clearE cutsE; rw [hv, hx]; rfl) w hl hr)
      have HIX := Lib.hid (show decide (-1048576 ≤ x ∧ x ≤ 1048576) = false by rw [← hx]; unfold inI; rw [Bool.decide_and])
      have HV := Lib.hid hv
      clear hv hx
      go_enter Tryz.func3, Tryz.ntmps3
      go_wp2_with fail
      go_at_call 6; refine (awake21_c _).mono ?_; rintro e w' ⟨rfl, x0, rfl⟩
      go_wp2_with fail
      go_at_call 7; refine (small21g_c l rs v u _ (HL.out.below (by (repeat (first | exact grow_refl _ | refine grow_ext _ ?_ | refine grow_alloc _ ?_ | refine grow_drew ?_)))) (HR.out.below (by (repeat (first | exact grow_refl _ | refine grow_ext _ ?_ | refine grow_alloc _ ?_ | refine grow_drew ?_))))).mono ?_; rintro e w' ⟨q, rfl, x1, rfl⟩
      cases q
      · go_wp2
        go_ret
        exact Ret.of (by (repeat (first | exact grow_refl _ | refine grow_ext _ ?_ | refine grow_alloc _ ?_ | refine grow_drew ?_)))
      go_wp2_with fail
      go_at_call 8; refine (HR1.out _ (HL.out.below (by (repeat (first | exact grow_refl _ | refine grow_ext _ ?_ | refine grow_alloc _ ?_ | refine grow_drew ?_)))) (HR.out.below (by (repeat (first | exact grow_refl _ | refine grow_ext _ ?_ | refine grow_alloc _ ?_ | refine grow_drew ?_))))).mono ?_; rintro e w' ⟨a1, c1, rfl, k1, x2, rfl⟩
      go_wp2_with fail
      go_at_call 9; refine (HC1.out _ (HL.out.below (by (repeat (first | exact grow_refl _ | refine grow_ext _ ?_ | refine grow_alloc _ ?_ | refine grow_drew ?_)))) (HR.out.below (by (repeat (first | exact grow_refl _ | refine grow_ext _ ?_ | refine grow_alloc _ ?_ | refine grow_drew ?_))))).mono ?_; rintro e w' ⟨rfl, x3, rfl⟩
      go_wp2_with fail
      go_at_call 10; refine (refLaid_v l rs v u true HV.out _ (HL.out.below (by (repeat (first | exact grow_refl _ | refine grow_ext _ ?_ | refine grow_alloc _ ?_ | refine grow_drew ?_)))) (HR.out.below (by (repeat (first | exact grow_refl _ | refine grow_ext _ ?_ | refine grow_alloc _ ?_ | refine grow_drew ?_))))).mono ?_; rintro e w' ⟨rfl, x4, rfl⟩
      go_wp2_with fail
      go_at_call 11; refine (refIsLen_v x false HIX.out _).mono ?_; rintro e w' ⟨rfl, x5, rfl⟩
      go_wp2
      go_ret
      exact Ret.of (by (repeat (first | exact grow_refl _ | refine grow_ext _ ?_ | refine grow_alloc _ ?_ | refine grow_drew ?_)))
    · have hxr : -1048576 ≤ x ∧ x ≤ 1048576 := by unfold inI at hx; simpa using hx
      have HIX := Lib.hid (show decide (-1048576 ≤ x ∧ x ≤ 1048576) = true by simpa using hxr)
      have hce : cutsE l rs x = (cutsI l rs x, 0) := by unfold cutsE; rw [if_pos hv, if_pos hx]
      have hsm : ∀ c ∈ cutsI l rs x, SmallB c.box ∧ sizeB c.size = true := by have := @cutsE_small l rs x; rw [hce] at this; exact this
      have hcl : clearE l rs x = if (cutsI l rs x).length < 2 then (0, 12) else (clearI (cutsI l rs x), 0) := by unfold clearE; rw [hce, if_pos rfl]
      have hlen : (cutsI l rs x).length ≤ 12000 := by have := cutsE_len l rs x; rw [hce] at this; exact this
      have hRL : (rcI l rs x).map Rc.box = (cutsI l rs x).map Ct.box := by rw [← rcI_ct, List.map_map]; rfl
      have hcx : ∀ c ∈ cutsI l rs x, c.box.lx = x ∧ c.box.hx = x := by
        intro c hc
        unfold cutsI cutsTo at hc
        obtain ⟨i, _, hci⟩ := List.mem_flatMap.1 hc
        unfold cutsAt at hci
        obtain ⟨b, _, hcb⟩ := List.mem_filterMap.1 hci
        unfold cutOf at hcb
        split at hcb
        · cases hcb; exact ⟨rfl, rfl⟩
        · cases hcb
      have hbd : ∀ c ∈ rcI l rs x, Bd c.box := by
        intro c hc
        have h1 : c.box ∈ (rcI l rs x).map Rc.box := List.mem_map.2 ⟨c, hc, rfl⟩
        rw [hRL] at h1
        obtain ⟨d, hd, e⟩ := List.mem_map.1 h1
        have h2 := (hsm d hd).1
        have h3 := hcx d hd
        rw [e] at h2 h3
        unfold SmallB at h2
        unfold Bd; omega
      have hll : (rcI l rs x).length = (cutsI l rs x).length := by have := congrArg List.length hRL; simpa using this
      have HR1 := Lib.hid (fun w hl hr => (gRow_c l rs v u x w hl hr).mono fun e W h => by
        rw [hce] at h; exact bxs_rc hRL h)
      have HCU := Lib.hid (fun w hl hr => refCuts21_c l rs v u x hv hxr w hl hr)
      have HCE := Lib.hid (fun v w hn hv => refClear21_c (rcI l rs x) (cutsI l rs x) v hRL hn (by omega) hbd w hv)
      rw [← hll] at hcl
      have HC1 := Lib.hid (fun r e h w hl hr => gClear_v l rs v u x r e (hcl.trans h) w hl hr)
      have HV := Lib.hid hv
      generalize rcI l rs x = R at *
      generalize clearI (cutsI l rs x) = C at *
      have hlen' : R.length ≤ 12000 := by omega
      clear hv hx hcl hce hsm hRL hbd hlen hll hcx
      obtain ⟨hx0, hx1⟩ := hxr
      by_cases h2 : R.length < 2
      · have HC2 := Lib.hid (HC1.out 0 12 (if_pos h2))
        have d1 : decide ((R.length : Int) < 2) = true := by simp; omega
        clear HC1 h2 HCE
        go_enter Tryz.func3, Tryz.ntmps3
        go_wp2_with fail
        go_at_call 6; refine (awake21_c _).mono ?_; rintro e w' ⟨rfl, x0, rfl⟩
        go_wp2_with fail
        go_at_call 7; refine (small21g_c l rs v u _ (HL.out.below (by (repeat (first | exact grow_refl _ | refine grow_ext _ ?_ | refine grow_alloc _ ?_ | refine grow_drew ?_)))) (HR.out.below (by (repeat (first | exact grow_refl _ | refine grow_ext _ ?_ | refine grow_alloc _ ?_ | refine grow_drew ?_))))).mono ?_; rintro e w' ⟨q, rfl, x1, rfl⟩
        cases q
        · go_wp2
          go_ret
          exact Ret.of (by (repeat (first | exact grow_refl _ | refine grow_ext _ ?_ | refine grow_alloc _ ?_ | refine grow_drew ?_)))
        go_wp2_with fail
        go_at_call 8; refine (HR1.out _ (HL.out.below (by (repeat (first | exact grow_refl _ | refine grow_ext _ ?_ | refine grow_alloc _ ?_ | refine grow_drew ?_)))) (HR.out.below (by (repeat (first | exact grow_refl _ | refine grow_ext _ ?_ | refine grow_alloc _ ?_ | refine grow_drew ?_))))).mono ?_; rintro e w' ⟨a1, c1, rfl, k1, k2, r1, x2, rfl⟩
        have H1 := Lib.hid r1
        clear r1 HR1
        go_wp2_with fail
        go_at_call 9; refine (HC2.out _ (HL.out.below (by (repeat (first | exact grow_refl _ | refine grow_ext _ ?_ | refine grow_alloc _ ?_ | refine grow_drew ?_)))) (HR.out.below (by (repeat (first | exact grow_refl _ | refine grow_ext _ ?_ | refine grow_alloc _ ?_ | refine grow_drew ?_))))).mono ?_; rintro e w' ⟨rfl, x3, rfl⟩
        go_wp2_with fail
        go_at_call 10; refine (refLaid_v l rs v u true HV.out _ (HL.out.below (by (repeat (first | exact grow_refl _ | refine grow_ext _ ?_ | refine grow_alloc _ ?_ | refine grow_drew ?_)))) (HR.out.below (by (repeat (first | exact grow_refl _ | refine grow_ext _ ?_ | refine grow_alloc _ ?_ | refine grow_drew ?_))))).mono ?_; rintro e w' ⟨rfl, x4, rfl⟩
        go_wp2_with fail
        go_at_call 11; refine (refIsLen_v x true HIX.out _).mono ?_; rintro e w' ⟨rfl, x5, rfl⟩
        go_wp2_with fail
        go_at_call 12; refine (HCU.out _ (HL.out.below (by (repeat (first | exact grow_refl _ | refine grow_ext _ ?_ | refine grow_alloc _ ?_ | refine grow_drew ?_)))) (HR.out.below (by (repeat (first | exact grow_refl _ | refine grow_ext _ ?_ | refine grow_alloc _ ?_ | refine grow_drew ?_))))).mono ?_; rintro e w' ⟨v6, rfl, hown, x6, rfl⟩
        obtain ⟨a6, c6, rfl, m1, m2, m3⟩ := Rcs.of_own hown
        clear hown
        refine world_mask (fun W => Below w.heap.size w W ∧ (∀ i (h : i < R.length), ∃ b off, a1 = some ⟨b, off, none⟩ ∧ BoxAt W b (off + i * 6) R[i].box) ∧ (∀ i (h : i < R.length), ∃ b off, a6 = some ⟨b, off, none⟩ ∧ RcAt W b (off + i * 7) R[i])) _ ⟨by (repeat (first | exact grow_refl _ | refine grow_ext _ ?_ | refine grow_alloc _ ?_ | refine grow_drew ?_)), fun i h => ?_, m3⟩ ?_
        · obtain ⟨b, off, e, hb⟩ := H1.out i h
          exact ⟨b, off, e, (((hb.ext _).ext _).ext _).ext _⟩
        clear H1 m3 HCU HC2 HV HIX
        rintro W1 ⟨hb1, hb2, hb3⟩
        have HB := Lib.hid hb1
        have H1 := Lib.hid hb2
        have H6 := Lib.hid hb3
        clear hb1 hb2 hb3
        go_wp2_with fail
        go_loopw [78] (fun i wr => ∃ k : Nat, k ≤ R.length ∧ i = .int .i64 k ∧ ∃ z, wr = ext W1 z) (fun i _ => R.length - (intOf i).toNat)
        case atStart => exact ⟨0, by omega, rfl, ext_of (by (repeat (first | exact grow_refl _ | refine grow_ext _ ?_ | refine grow_alloc _ ?_ | refine grow_drew ?_)))⟩
        case round =>
          obtain ⟨k, hk, rfl, z, rfl⟩ := hrel
          by_cases hlt : k < R.length
          · have i1 : (0 : Int) ≤ (k : Int) := by omega
            have i2 : (k : Int) < (R.length : Int) := by omega
            obtain ⟨b0, o0, rfl, hp⟩ := H1.out k hlt
            obtain ⟨b1, o1, rfl, hq⟩ := H6.out k hlt
            have hp' := hp.ext z
            have hq' := hq.ext z
            generalize R[k] = p at *
            obtain ⟨p0, p1, p2, p3, p4, p5⟩ := hp'
            obtain ⟨q0, q1, q2, q3, q4, q5, q6⟩ := hq'
            clear hp hq
            go_wp2_with fail
            go_region
            go_wp2
            go_roundw
            case rel => exact ⟨k + 1, by omega, by go_num, ext_of (by (repeat (first | exact grow_refl _ | refine grow_ext _ ?_ | refine grow_alloc _ ?_ | refine grow_drew ?_)))⟩
            case measure => simp [intOf]; omega
          · obtain rfl : k = R.length := by omega
            go_wp2
            go_ret
            exact Ret.of (by (repeat (first | exact grow_refl _ | exact HB.out | refine grow_ext _ ?_ | refine grow_alloc _ ?_ | refine grow_drew ?_)))
      · have HC2 := Lib.hid (HC1.out C 0 (if_neg h2))
        have d1 : decide ((R.length : Int) < 2) = false := by simp; omega
        have HCE' := Lib.hid (fun v w hv => HCE.out v w (by omega) hv)
        clear HC1 h2 HCE
        go_enter Tryz.func3, Tryz.ntmps3
        go_wp2_with fail
        go_at_call 6; refine (awake21_c _).mono ?_; rintro e w' ⟨rfl, x0, rfl⟩
        go_wp2_with fail
        go_at_call 7; refine (small21g_c l rs v u _ (HL.out.below (by (repeat (first | exact grow_refl _ | refine grow_ext _ ?_ | refine grow_alloc _ ?_ | refine grow_drew ?_)))) (HR.out.below (by (repeat (first | exact grow_refl _ | refine grow_ext _ ?_ | refine grow_alloc _ ?_ | refine grow_drew ?_))))).mono ?_; rintro e w' ⟨q, rfl, x1, rfl⟩
        cases q
        · go_wp2
          go_ret
          exact Ret.of (by (repeat (first | exact grow_refl _ | refine grow_ext _ ?_ | refine grow_alloc _ ?_ | refine grow_drew ?_)))
        go_wp2_with fail
        go_at_call 8; refine (HR1.out _ (HL.out.below (by (repeat (first | exact grow_refl _ | refine grow_ext _ ?_ | refine grow_alloc _ ?_ | refine grow_drew ?_)))) (HR.out.below (by (repeat (first | exact grow_refl _ | refine grow_ext _ ?_ | refine grow_alloc _ ?_ | refine grow_drew ?_))))).mono ?_; rintro e w' ⟨a1, c1, rfl, k1, k2, r1, x2, rfl⟩
        have H1 := Lib.hid r1
        clear r1 HR1
        go_wp2_with fail
        go_at_call 9; refine (HC2.out _ (HL.out.below (by (repeat (first | exact grow_refl _ | refine grow_ext _ ?_ | refine grow_alloc _ ?_ | refine grow_drew ?_)))) (HR.out.below (by (repeat (first | exact grow_refl _ | refine grow_ext _ ?_ | refine grow_alloc _ ?_ | refine grow_drew ?_))))).mono ?_; rintro e w' ⟨rfl, x3, rfl⟩
        go_wp2_with fail
        go_at_call 10; refine (refLaid_v l rs v u true HV.out _ (HL.out.below (by (repeat (first | exact grow_refl _ | refine grow_ext _ ?_ | refine grow_alloc _ ?_ | refine grow_drew ?_)))) (HR.out.below (by (repeat (first | exact grow_refl _ | refine grow_ext _ ?_ | refine grow_alloc _ ?_ | refine grow_drew ?_))))).mono ?_; rintro e w' ⟨rfl, x4, rfl⟩
        go_wp2_with fail
        go_at_call 11; refine (refIsLen_v x true HIX.out _).mono ?_; rintro e w' ⟨rfl, x5, rfl⟩
        go_wp2_with fail
        go_at_call 12; refine (HCU.out _ (HL.out.below (by (repeat (first | exact grow_refl _ | refine grow_ext _ ?_ | refine grow_alloc _ ?_ | refine grow_drew ?_)))) (HR.out.below (by (repeat (first | exact grow_refl _ | refine grow_ext _ ?_ | refine grow_alloc _ ?_ | refine grow_drew ?_))))).mono ?_; rintro e w' ⟨v6, rfl, hown, x6, rfl⟩
        have HRC := Lib.hid (Rcs.of_own hown)
        obtain ⟨a6, c6, rfl, m1, m2, m3⟩ := Rcs.of_own hown
        clear hown
        refine world_mask (fun W => Below w.heap.size w W ∧ (∀ i (h : i < R.length), ∃ b off, a1 = some ⟨b, off, none⟩ ∧ BoxAt W b (off + i * 6) R[i].box) ∧ (∀ i (h : i < R.length), ∃ b off, a6 = some ⟨b, off, none⟩ ∧ RcAt W b (off + i * 7) R[i]) ∧ Rcs W (.slice a6 R.length c6) R) _ ⟨by (repeat (first | exact grow_refl _ | refine grow_ext _ ?_ | refine grow_alloc _ ?_ | refine grow_drew ?_)), fun i h => ?_, m3, HRC.out⟩ ?_
        · obtain ⟨b, off, e, hb⟩ := H1.out i h
          exact ⟨b, off, e, (((hb.ext _).ext _).ext _).ext _⟩
        clear H1 m3 HCU HC2 HV HIX HRC
        rintro W1 ⟨hb1, hb2, hb3, hb4⟩
        have HB := Lib.hid hb1
        have H1 := Lib.hid hb2
        have H6 := Lib.hid hb3
        have HRC := Lib.hid hb4
        clear hb1 hb2 hb3 hb4
        go_wp2_with fail
        go_loopw [78] (fun i wr => ∃ k : Nat, k ≤ R.length ∧ i = .int .i64 k ∧ ∃ z, wr = ext W1 z) (fun i _ => R.length - (intOf i).toNat)
        case atStart => exact ⟨0, by omega, rfl, ext_of (by (repeat (first | exact grow_refl _ | refine grow_ext _ ?_ | refine grow_alloc _ ?_ | refine grow_drew ?_)))⟩
        case round =>
          obtain ⟨k, hk, rfl, z, rfl⟩ := hrel
          by_cases hlt : k < R.length
          · have i1 : (0 : Int) ≤ (k : Int) := by omega
            have i2 : (k : Int) < (R.length : Int) := by omega
            obtain ⟨b0, o0, rfl, hp⟩ := H1.out k hlt
            obtain ⟨b1, o1, rfl, hq⟩ := H6.out k hlt
            have hp' := hp.ext z
            have hq' := hq.ext z
            generalize R[k] = p at *
            obtain ⟨p0, p1, p2, p3, p4, p5⟩ := hp'
            obtain ⟨q0, q1, q2, q3, q4, q5, q6⟩ := hq'
            clear hp hq
            go_wp2_with fail
            go_region
            go_wp2
            go_roundw
            case rel => exact ⟨k + 1, by omega, by go_num, ext_of (by (repeat (first | exact grow_refl _ | refine grow_ext _ ?_ | refine grow_alloc _ ?_ | refine grow_drew ?_)))⟩
            case measure => simp [intOf]; omega
          · obtain rfl : k = R.length := by omega
            go_wp2_with fail
            go_at_call 13; refine (HCE'.out _ _ (HRC.out.below (by (repeat (first | exact grow_refl _ | refine grow_ext _ ?_ | refine grow_alloc _ ?_ | refine grow_drew ?_))))).mono ?_; rintro e w' ⟨rfl, x7, rfl⟩
            go_wp2
            go_ret
            exact Ret.of (by (repeat (first | exact grow_refl _ | exact HB.out | refine grow_ext _ ?_ | refine grow_alloc _ ?_ | refine grow_drew ?_)))

theorem lawGapsRows_c (l : List Br) (v : Value) (rs : List Rn) (u : Value) (x : Int) (_ : -9223372036854775808 ≤ x ∧ x ≤ 9223372036854775807) (w : World) (hl : Bars w v l) (hr : Runs w u rs) :
    Calls Tryz.prog 3 #[v, u, .int .i64 x] w (Ret w (.bool true)) := lawRows_ok l rs v u x w hl hr

end Go.Proofs.YtofjopdcbmaijaaGreat
