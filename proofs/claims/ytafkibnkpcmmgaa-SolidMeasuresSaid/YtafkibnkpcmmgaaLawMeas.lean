/- SolidMeasures: the walk of the law. -/
import Derived.Test.YtafkibnkpcmmgaaSolW
import Derived.Test.YtafkibnkpcmmgaaEqual
namespace Go.Proofs.Ytafkibnkpcmmgaa
open Go.RowKit

set_option maxHeartbeats 1000000 in
theorem small17_v (l m : List Bx) (u t : Value) (r : Bool) (h : smallB l.length m.length 4 = r) (w : World) (hl : Boxes w u l) (hm : Boxes w t m) :
    Calls Try.prog 29 #[.agg #[u, t]] w (Ret w (.bool r)) := by
  have HL := Lib.hid hl
  have HM := Lib.hid hm
  have HR := Lib.hid (refSmall_v l m u t 4 r h)
  clear hl hm h
  go_enter Try.func29, Try.ntmps29
  go_wp2_with fail
  go_at_call 59; refine (HR.out _ (HL.out.below (by (repeat (first | exact grow_refl _ | refine grow_ext _ ?_ | refine grow_alloc _ ?_ | refine grow_drew ?_)))) (HM.out.below (by (repeat (first | exact grow_refl _ | refine grow_ext _ ?_ | refine grow_alloc _ ?_ | refine grow_drew ?_))))).mono ?_; rintro e w' ⟨rfl, x1, rfl⟩
  go_wp2
  go_ret
  exact Ret.of (by (repeat (first | exact grow_refl _ | refine grow_ext _ ?_ | refine grow_alloc _ ?_ | refine grow_drew ?_)))

set_option maxRecDepth 100000 in
set_option maxHeartbeats 4000000 in
theorem lawSolidMeasures_c (l m : List Bx) (u t : Value) (x : Int) (_h1 : -9223372036854775808 ≤ x ∧ x ≤ 9223372036854775807) (w : World) (hl : Boxes w u l) (hm : Boxes w t m) :
    Calls Try.prog 7 #[.agg #[u, t], .int .i64 x] w (Ret w (.bool true)) := by
  have HL := Lib.hid hl
  have HM := Lib.hid hm
  clear hl hm
  cases hs : smallB l.length m.length 4
  · have HS := Lib.hid hs
    clear hs
    go_enter Try.func7, Try.ntmps7
    go_wp2_with fail
    go_at_call 9; refine (awake17_c _).mono ?_; rintro e w' ⟨rfl, x0, rfl⟩
    go_wp2_with fail
    go_at_call 29; refine (small17_v l m _ _ _ HS.out _ (HL.out.below (by (repeat (first | exact grow_refl _ | refine grow_ext _ ?_ | refine grow_alloc _ ?_ | refine grow_drew ?_)))) (HM.out.below (by (repeat (first | exact grow_refl _ | refine grow_ext _ ?_ | refine grow_alloc _ ?_ | refine grow_drew ?_))))).mono ?_; rintro e w' ⟨rfl, x1, rfl⟩
    go_wp2
    go_ret
    exact Ret.of (by (repeat (first | exact grow_refl _ | refine grow_ext _ ?_ | refine grow_alloc _ ?_ | refine grow_drew ?_)))
  have HS := Lib.hid hs
  clear hs
  have HV := Lib.hid (fun w hl hm => volume_c l m u t w hl hm)
  have HT := Lib.hid (fun w hl hm => section_c l m u t x w hl hm)
  have HC := Lib.hid (fun w hl hm => solidCells_c l m u t w hl hm)
  cases hb : solidB l m
  · rw [show volR l m = (0, 1) by unfold volR; rw [hb]; rfl] at HV
    rw [show sectR l m x = (0, 1) by unfold sectR; rw [hb]; rfl] at HT
    rw [show cellsR l m = ([], 1) by unfold cellsR; rw [hb]; rfl] at HC
    have HB := Lib.hid hb
    clear hb
    go_enter Try.func7, Try.ntmps7
    go_wp2_with fail
    go_at_call 9; refine (awake17_c _).mono ?_; rintro e w' ⟨rfl, x0, rfl⟩
    go_wp2_with fail
    go_at_call 29; refine (small17_v l m _ _ _ HS.out _ (HL.out.below (by (repeat (first | exact grow_refl _ | refine grow_ext _ ?_ | refine grow_alloc _ ?_ | refine grow_drew ?_)))) (HM.out.below (by (repeat (first | exact grow_refl _ | refine grow_ext _ ?_ | refine grow_alloc _ ?_ | refine grow_drew ?_))))).mono ?_; rintro e w' ⟨rfl, x1, rfl⟩
    go_wp2_with fail
    go_at_call 18; refine (HV.out _ (HL.out.below (by (repeat (first | exact grow_refl _ | refine grow_ext _ ?_ | refine grow_alloc _ ?_ | refine grow_drew ?_)))) (HM.out.below (by (repeat (first | exact grow_refl _ | refine grow_ext _ ?_ | refine grow_alloc _ ?_ | refine grow_drew ?_))))).mono ?_; rintro e w' ⟨rfl, x2, rfl⟩
    go_wp2_with fail
    go_at_call 23; refine (HT.out _ (HL.out.below (by (repeat (first | exact grow_refl _ | refine grow_ext _ ?_ | refine grow_alloc _ ?_ | refine grow_drew ?_)))) (HM.out.below (by (repeat (first | exact grow_refl _ | refine grow_ext _ ?_ | refine grow_alloc _ ?_ | refine grow_drew ?_))))).mono ?_; rintro e w' ⟨rfl, x3, rfl⟩
    go_wp2_with fail
    go_at_call 36; refine Calls.mono (HC.out _ (HL.out.below (by (repeat (first | exact grow_refl _ | refine grow_ext _ ?_ | refine grow_alloc _ ?_ | refine grow_drew ?_)))) (HM.out.below (by (repeat (first | exact grow_refl _ | refine grow_ext _ ?_ | refine grow_alloc _ ?_ | refine grow_drew ?_))))) ?_; rintro e w' ⟨v1, rfl, hown1, x4, rfl⟩
    have P1 := Lib.hid (Boxes.of_own hown1)
    obtain ⟨a1, c1, rfl, _, _, _⟩ := own_shape hown1
    clear hown1
    go_wp2_with fail
    go_at_call 24; refine (refSolid_v l m _ _ _ HB.out _ (HL.out.below (by (repeat (first | exact grow_refl _ | refine grow_ext _ ?_ | refine grow_alloc _ ?_ | refine grow_drew ?_)))) (HM.out.below (by (repeat (first | exact grow_refl _ | refine grow_ext _ ?_ | refine grow_alloc _ ?_ | refine grow_drew ?_))))).mono ?_; rintro e w' ⟨rfl, x5, rfl⟩
    go_wp2
    go_ret
    exact Ret.of (by (repeat (first | exact grow_refl _ | refine grow_ext _ ?_ | refine grow_alloc _ ?_ | refine grow_drew ?_)))
  have HRV := Lib.hid (fun w hl hm => refVolume_c l m u t hb w hl hm)
  have HRC := Lib.hid (fun w hl hm => refSolCells_c l m u t hb w hl hm)
  have HRS := Lib.hid (fun w hl hm => refSection_c l m u t x hb w hl hm)
  have hcl : cellsR l m = (if (cellsL l m).length ≤ 1000 then (cellsL l m, 0) else ([], 4)) := by unfold cellsR; rw [hb]; rfl
  have hsc : sectR l m x = (if isLen x = true then (sectI l m x, 0) else (0, 2)) := by unfold sectR isLen; rw [hb]; simp
  have HB := Lib.hid hb
  clear hb
  generalize volR l m = r at *
  obtain ⟨V, e0⟩ := r
  generalize cellsL l m = cs at *
  generalize sectI l m x = A at *
  dsimp only at HV HRV
  by_cases hlen : cs.length ≤ 1000
  · rw [hcl, if_pos hlen] at HC
    have hl2 : decide ((1000 : Int) < (cs.length : Int)) = false := by simp; omega
    clear hcl hlen
    cases hi : isLen x
    · rw [hsc, hi, if_neg (by decide)] at HT
      clear hsc
      have HX := Lib.hid hi
      clear hi
      go_enter Try.func7, Try.ntmps7
      go_wp2_with fail
      go_at_call 9; refine (awake17_c _).mono ?_; rintro e w' ⟨rfl, x0, rfl⟩
      go_wp2_with fail
      go_at_call 29; refine (small17_v l m _ _ _ HS.out _ (HL.out.below (by (repeat (first | exact grow_refl _ | refine grow_ext _ ?_ | refine grow_alloc _ ?_ | refine grow_drew ?_)))) (HM.out.below (by (repeat (first | exact grow_refl _ | refine grow_ext _ ?_ | refine grow_alloc _ ?_ | refine grow_drew ?_))))).mono ?_; rintro e w' ⟨rfl, x1, rfl⟩
      go_wp2_with fail
      go_at_call 18; refine (HV.out _ (HL.out.below (by (repeat (first | exact grow_refl _ | refine grow_ext _ ?_ | refine grow_alloc _ ?_ | refine grow_drew ?_)))) (HM.out.below (by (repeat (first | exact grow_refl _ | refine grow_ext _ ?_ | refine grow_alloc _ ?_ | refine grow_drew ?_))))).mono ?_; rintro e w' ⟨rfl, x2, rfl⟩
      go_wp2_with fail
      go_at_call 23; refine (HT.out _ (HL.out.below (by (repeat (first | exact grow_refl _ | refine grow_ext _ ?_ | refine grow_alloc _ ?_ | refine grow_drew ?_)))) (HM.out.below (by (repeat (first | exact grow_refl _ | refine grow_ext _ ?_ | refine grow_alloc _ ?_ | refine grow_drew ?_))))).mono ?_; rintro e w' ⟨rfl, x3, rfl⟩
      go_wp2_with fail
      go_at_call 36; refine Calls.mono (HC.out _ (HL.out.below (by (repeat (first | exact grow_refl _ | refine grow_ext _ ?_ | refine grow_alloc _ ?_ | refine grow_drew ?_)))) (HM.out.below (by (repeat (first | exact grow_refl _ | refine grow_ext _ ?_ | refine grow_alloc _ ?_ | refine grow_drew ?_))))) ?_; rintro e w' ⟨v1, rfl, hown1, x4, rfl⟩
      have P1 := Lib.hid (Boxes.of_own hown1)
      obtain ⟨a1, c1, rfl, _, _, _⟩ := own_shape hown1
      clear hown1
      go_wp2_with fail
      go_at_call 24; refine (refSolid_v l m _ _ _ HB.out _ (HL.out.below (by (repeat (first | exact grow_refl _ | refine grow_ext _ ?_ | refine grow_alloc _ ?_ | refine grow_drew ?_)))) (HM.out.below (by (repeat (first | exact grow_refl _ | refine grow_ext _ ?_ | refine grow_alloc _ ?_ | refine grow_drew ?_))))).mono ?_; rintro e w' ⟨rfl, x5, rfl⟩
      go_wp2_with fail
      go_at_call 37; refine (HRV.out _ (HL.out.below (by (repeat (first | exact grow_refl _ | refine grow_ext _ ?_ | refine grow_alloc _ ?_ | refine grow_drew ?_)))) (HM.out.below (by (repeat (first | exact grow_refl _ | refine grow_ext _ ?_ | refine grow_alloc _ ?_ | refine grow_drew ?_))))).mono ?_; rintro e w' ⟨rfl, x6, rfl⟩
      go_wp2_with fail
      go_at_call 38; refine Calls.mono (HRC.out _ (HL.out.below (by (repeat (first | exact grow_refl _ | refine grow_ext _ ?_ | refine grow_alloc _ ?_ | refine grow_drew ?_)))) (HM.out.below (by (repeat (first | exact grow_refl _ | refine grow_ext _ ?_ | refine grow_alloc _ ?_ | refine grow_drew ?_))))) ?_; rintro e w' ⟨v2, rfl, hown2, x7, rfl⟩
      have P2 := Lib.hid (Boxes.of_own hown2)
      obtain ⟨a2, c2, rfl, _, _, _⟩ := own_shape hown2
      clear hown2
      go_wp2_with fail
      go_at_call 39; refine (equalBoxes_same cs _ _ _ (P1.out.below (by (repeat (first | exact grow_refl _ | refine grow_ext _ ?_ | refine grow_alloc _ ?_ | refine grow_drew ?_)))) (P2.out.below (by (repeat (first | exact grow_refl _ | refine grow_ext _ ?_ | refine grow_alloc _ ?_ | refine grow_drew ?_))))).mono ?_; rintro e w' ⟨rfl, x8, rfl⟩
      go_wp2_with fail
      go_at_call 40; refine (isLength_v x _ HX.out _).mono ?_; rintro e w' ⟨rfl, x9, rfl⟩
      go_wp2
      go_ret
      exact Ret.of (by (repeat (first | exact grow_refl _ | refine grow_ext _ ?_ | refine grow_alloc _ ?_ | refine grow_drew ?_)))

    · rw [hsc, hi, if_pos rfl] at HT
      clear hsc
      have HX := Lib.hid hi
      clear hi
      go_enter Try.func7, Try.ntmps7
      go_wp2_with fail
      go_at_call 9; refine (awake17_c _).mono ?_; rintro e w' ⟨rfl, x0, rfl⟩
      go_wp2_with fail
      go_at_call 29; refine (small17_v l m _ _ _ HS.out _ (HL.out.below (by (repeat (first | exact grow_refl _ | refine grow_ext _ ?_ | refine grow_alloc _ ?_ | refine grow_drew ?_)))) (HM.out.below (by (repeat (first | exact grow_refl _ | refine grow_ext _ ?_ | refine grow_alloc _ ?_ | refine grow_drew ?_))))).mono ?_; rintro e w' ⟨rfl, x1, rfl⟩
      go_wp2_with fail
      go_at_call 18; refine (HV.out _ (HL.out.below (by (repeat (first | exact grow_refl _ | refine grow_ext _ ?_ | refine grow_alloc _ ?_ | refine grow_drew ?_)))) (HM.out.below (by (repeat (first | exact grow_refl _ | refine grow_ext _ ?_ | refine grow_alloc _ ?_ | refine grow_drew ?_))))).mono ?_; rintro e w' ⟨rfl, x2, rfl⟩
      go_wp2_with fail
      go_at_call 23; refine (HT.out _ (HL.out.below (by (repeat (first | exact grow_refl _ | refine grow_ext _ ?_ | refine grow_alloc _ ?_ | refine grow_drew ?_)))) (HM.out.below (by (repeat (first | exact grow_refl _ | refine grow_ext _ ?_ | refine grow_alloc _ ?_ | refine grow_drew ?_))))).mono ?_; rintro e w' ⟨rfl, x3, rfl⟩
      go_wp2_with fail
      go_at_call 36; refine Calls.mono (HC.out _ (HL.out.below (by (repeat (first | exact grow_refl _ | refine grow_ext _ ?_ | refine grow_alloc _ ?_ | refine grow_drew ?_)))) (HM.out.below (by (repeat (first | exact grow_refl _ | refine grow_ext _ ?_ | refine grow_alloc _ ?_ | refine grow_drew ?_))))) ?_; rintro e w' ⟨v1, rfl, hown1, x4, rfl⟩
      have P1 := Lib.hid (Boxes.of_own hown1)
      obtain ⟨a1, c1, rfl, _, _, _⟩ := own_shape hown1
      clear hown1
      go_wp2_with fail
      go_at_call 24; refine (refSolid_v l m _ _ _ HB.out _ (HL.out.below (by (repeat (first | exact grow_refl _ | refine grow_ext _ ?_ | refine grow_alloc _ ?_ | refine grow_drew ?_)))) (HM.out.below (by (repeat (first | exact grow_refl _ | refine grow_ext _ ?_ | refine grow_alloc _ ?_ | refine grow_drew ?_))))).mono ?_; rintro e w' ⟨rfl, x5, rfl⟩
      go_wp2_with fail
      go_at_call 37; refine (HRV.out _ (HL.out.below (by (repeat (first | exact grow_refl _ | refine grow_ext _ ?_ | refine grow_alloc _ ?_ | refine grow_drew ?_)))) (HM.out.below (by (repeat (first | exact grow_refl _ | refine grow_ext _ ?_ | refine grow_alloc _ ?_ | refine grow_drew ?_))))).mono ?_; rintro e w' ⟨rfl, x6, rfl⟩
      go_wp2_with fail
      go_at_call 38; refine Calls.mono (HRC.out _ (HL.out.below (by (repeat (first | exact grow_refl _ | refine grow_ext _ ?_ | refine grow_alloc _ ?_ | refine grow_drew ?_)))) (HM.out.below (by (repeat (first | exact grow_refl _ | refine grow_ext _ ?_ | refine grow_alloc _ ?_ | refine grow_drew ?_))))) ?_; rintro e w' ⟨v2, rfl, hown2, x7, rfl⟩
      have P2 := Lib.hid (Boxes.of_own hown2)
      obtain ⟨a2, c2, rfl, _, _, _⟩ := own_shape hown2
      clear hown2
      go_wp2_with fail
      go_at_call 39; refine (equalBoxes_same cs _ _ _ (P1.out.below (by (repeat (first | exact grow_refl _ | refine grow_ext _ ?_ | refine grow_alloc _ ?_ | refine grow_drew ?_)))) (P2.out.below (by (repeat (first | exact grow_refl _ | refine grow_ext _ ?_ | refine grow_alloc _ ?_ | refine grow_drew ?_))))).mono ?_; rintro e w' ⟨rfl, x8, rfl⟩
      go_wp2_with fail
      go_at_call 40; refine (isLength_v x _ HX.out _).mono ?_; rintro e w' ⟨rfl, x9, rfl⟩
      go_wp2_with fail
      go_at_call 41; refine (HRS.out _ (HL.out.below (by (repeat (first | exact grow_refl _ | refine grow_ext _ ?_ | refine grow_alloc _ ?_ | refine grow_drew ?_)))) (HM.out.below (by (repeat (first | exact grow_refl _ | refine grow_ext _ ?_ | refine grow_alloc _ ?_ | refine grow_drew ?_))))).mono ?_; rintro e w' ⟨rfl, x10, rfl⟩
      go_wp2
      go_ret
      exact Ret.of (by (repeat (first | exact grow_refl _ | refine grow_ext _ ?_ | refine grow_alloc _ ?_ | refine grow_drew ?_)))

  · rw [hcl, if_neg hlen] at HC
    have hl2 : decide ((1000 : Int) < (cs.length : Int)) = true := by simp; omega
    clear hcl hlen
    cases hi : isLen x
    · rw [hsc, hi, if_neg (by decide)] at HT
      clear hsc
      have HX := Lib.hid hi
      clear hi
      go_enter Try.func7, Try.ntmps7
      go_wp2_with fail
      go_at_call 9; refine (awake17_c _).mono ?_; rintro e w' ⟨rfl, x0, rfl⟩
      go_wp2_with fail
      go_at_call 29; refine (small17_v l m _ _ _ HS.out _ (HL.out.below (by (repeat (first | exact grow_refl _ | refine grow_ext _ ?_ | refine grow_alloc _ ?_ | refine grow_drew ?_)))) (HM.out.below (by (repeat (first | exact grow_refl _ | refine grow_ext _ ?_ | refine grow_alloc _ ?_ | refine grow_drew ?_))))).mono ?_; rintro e w' ⟨rfl, x1, rfl⟩
      go_wp2_with fail
      go_at_call 18; refine (HV.out _ (HL.out.below (by (repeat (first | exact grow_refl _ | refine grow_ext _ ?_ | refine grow_alloc _ ?_ | refine grow_drew ?_)))) (HM.out.below (by (repeat (first | exact grow_refl _ | refine grow_ext _ ?_ | refine grow_alloc _ ?_ | refine grow_drew ?_))))).mono ?_; rintro e w' ⟨rfl, x2, rfl⟩
      go_wp2_with fail
      go_at_call 23; refine (HT.out _ (HL.out.below (by (repeat (first | exact grow_refl _ | refine grow_ext _ ?_ | refine grow_alloc _ ?_ | refine grow_drew ?_)))) (HM.out.below (by (repeat (first | exact grow_refl _ | refine grow_ext _ ?_ | refine grow_alloc _ ?_ | refine grow_drew ?_))))).mono ?_; rintro e w' ⟨rfl, x3, rfl⟩
      go_wp2_with fail
      go_at_call 36; refine Calls.mono (HC.out _ (HL.out.below (by (repeat (first | exact grow_refl _ | refine grow_ext _ ?_ | refine grow_alloc _ ?_ | refine grow_drew ?_)))) (HM.out.below (by (repeat (first | exact grow_refl _ | refine grow_ext _ ?_ | refine grow_alloc _ ?_ | refine grow_drew ?_))))) ?_; rintro e w' ⟨v1, rfl, hown1, x4, rfl⟩
      have P1 := Lib.hid (Boxes.of_own hown1)
      obtain ⟨a1, c1, rfl, _, _, _⟩ := own_shape hown1
      clear hown1
      go_wp2_with fail
      go_at_call 24; refine (refSolid_v l m _ _ _ HB.out _ (HL.out.below (by (repeat (first | exact grow_refl _ | refine grow_ext _ ?_ | refine grow_alloc _ ?_ | refine grow_drew ?_)))) (HM.out.below (by (repeat (first | exact grow_refl _ | refine grow_ext _ ?_ | refine grow_alloc _ ?_ | refine grow_drew ?_))))).mono ?_; rintro e w' ⟨rfl, x5, rfl⟩
      go_wp2_with fail
      go_at_call 37; refine (HRV.out _ (HL.out.below (by (repeat (first | exact grow_refl _ | refine grow_ext _ ?_ | refine grow_alloc _ ?_ | refine grow_drew ?_)))) (HM.out.below (by (repeat (first | exact grow_refl _ | refine grow_ext _ ?_ | refine grow_alloc _ ?_ | refine grow_drew ?_))))).mono ?_; rintro e w' ⟨rfl, x6, rfl⟩
      go_wp2_with fail
      go_at_call 38; refine Calls.mono (HRC.out _ (HL.out.below (by (repeat (first | exact grow_refl _ | refine grow_ext _ ?_ | refine grow_alloc _ ?_ | refine grow_drew ?_)))) (HM.out.below (by (repeat (first | exact grow_refl _ | refine grow_ext _ ?_ | refine grow_alloc _ ?_ | refine grow_drew ?_))))) ?_; rintro e w' ⟨v2, rfl, hown2, x7, rfl⟩
      have P2 := Lib.hid (Boxes.of_own hown2)
      obtain ⟨a2, c2, rfl, _, _, _⟩ := own_shape hown2
      clear hown2
      go_wp2_with fail
      go_at_call 40; refine (isLength_v x _ HX.out _).mono ?_; rintro e w' ⟨rfl, x9, rfl⟩
      go_wp2
      go_ret
      exact Ret.of (by (repeat (first | exact grow_refl _ | refine grow_ext _ ?_ | refine grow_alloc _ ?_ | refine grow_drew ?_)))

    · rw [hsc, hi, if_pos rfl] at HT
      clear hsc
      have HX := Lib.hid hi
      clear hi
      go_enter Try.func7, Try.ntmps7
      go_wp2_with fail
      go_at_call 9; refine (awake17_c _).mono ?_; rintro e w' ⟨rfl, x0, rfl⟩
      go_wp2_with fail
      go_at_call 29; refine (small17_v l m _ _ _ HS.out _ (HL.out.below (by (repeat (first | exact grow_refl _ | refine grow_ext _ ?_ | refine grow_alloc _ ?_ | refine grow_drew ?_)))) (HM.out.below (by (repeat (first | exact grow_refl _ | refine grow_ext _ ?_ | refine grow_alloc _ ?_ | refine grow_drew ?_))))).mono ?_; rintro e w' ⟨rfl, x1, rfl⟩
      go_wp2_with fail
      go_at_call 18; refine (HV.out _ (HL.out.below (by (repeat (first | exact grow_refl _ | refine grow_ext _ ?_ | refine grow_alloc _ ?_ | refine grow_drew ?_)))) (HM.out.below (by (repeat (first | exact grow_refl _ | refine grow_ext _ ?_ | refine grow_alloc _ ?_ | refine grow_drew ?_))))).mono ?_; rintro e w' ⟨rfl, x2, rfl⟩
      go_wp2_with fail
      go_at_call 23; refine (HT.out _ (HL.out.below (by (repeat (first | exact grow_refl _ | refine grow_ext _ ?_ | refine grow_alloc _ ?_ | refine grow_drew ?_)))) (HM.out.below (by (repeat (first | exact grow_refl _ | refine grow_ext _ ?_ | refine grow_alloc _ ?_ | refine grow_drew ?_))))).mono ?_; rintro e w' ⟨rfl, x3, rfl⟩
      go_wp2_with fail
      go_at_call 36; refine Calls.mono (HC.out _ (HL.out.below (by (repeat (first | exact grow_refl _ | refine grow_ext _ ?_ | refine grow_alloc _ ?_ | refine grow_drew ?_)))) (HM.out.below (by (repeat (first | exact grow_refl _ | refine grow_ext _ ?_ | refine grow_alloc _ ?_ | refine grow_drew ?_))))) ?_; rintro e w' ⟨v1, rfl, hown1, x4, rfl⟩
      have P1 := Lib.hid (Boxes.of_own hown1)
      obtain ⟨a1, c1, rfl, _, _, _⟩ := own_shape hown1
      clear hown1
      go_wp2_with fail
      go_at_call 24; refine (refSolid_v l m _ _ _ HB.out _ (HL.out.below (by (repeat (first | exact grow_refl _ | refine grow_ext _ ?_ | refine grow_alloc _ ?_ | refine grow_drew ?_)))) (HM.out.below (by (repeat (first | exact grow_refl _ | refine grow_ext _ ?_ | refine grow_alloc _ ?_ | refine grow_drew ?_))))).mono ?_; rintro e w' ⟨rfl, x5, rfl⟩
      go_wp2_with fail
      go_at_call 37; refine (HRV.out _ (HL.out.below (by (repeat (first | exact grow_refl _ | refine grow_ext _ ?_ | refine grow_alloc _ ?_ | refine grow_drew ?_)))) (HM.out.below (by (repeat (first | exact grow_refl _ | refine grow_ext _ ?_ | refine grow_alloc _ ?_ | refine grow_drew ?_))))).mono ?_; rintro e w' ⟨rfl, x6, rfl⟩
      go_wp2_with fail
      go_at_call 38; refine Calls.mono (HRC.out _ (HL.out.below (by (repeat (first | exact grow_refl _ | refine grow_ext _ ?_ | refine grow_alloc _ ?_ | refine grow_drew ?_)))) (HM.out.below (by (repeat (first | exact grow_refl _ | refine grow_ext _ ?_ | refine grow_alloc _ ?_ | refine grow_drew ?_))))) ?_; rintro e w' ⟨v2, rfl, hown2, x7, rfl⟩
      have P2 := Lib.hid (Boxes.of_own hown2)
      obtain ⟨a2, c2, rfl, _, _, _⟩ := own_shape hown2
      clear hown2
      go_wp2_with fail
      go_at_call 40; refine (isLength_v x _ HX.out _).mono ?_; rintro e w' ⟨rfl, x9, rfl⟩
      go_wp2_with fail
      go_at_call 41; refine (HRS.out _ (HL.out.below (by (repeat (first | exact grow_refl _ | refine grow_ext _ ?_ | refine grow_alloc _ ?_ | refine grow_drew ?_)))) (HM.out.below (by (repeat (first | exact grow_refl _ | refine grow_ext _ ?_ | refine grow_alloc _ ?_ | refine grow_drew ?_))))).mono ?_; rintro e w' ⟨rfl, x10, rfl⟩
      go_wp2
      go_ret
      exact Ret.of (by (repeat (first | exact grow_refl _ | refine grow_ext _ ?_ | refine grow_alloc _ ?_ | refine grow_drew ?_)))

end Go.Proofs.Ytafkibnkpcmmgaa
