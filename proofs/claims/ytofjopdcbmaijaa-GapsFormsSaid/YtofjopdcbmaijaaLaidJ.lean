/- How many bars are laid, and their marks: laid.Count, laid.Mark. -/
import Derived.Test.YtofjopdcbmaijaaLaidI
namespace Go.Proofs.Ytofjopdcbmaijaa
open Go.RowKit
set_option maxRecDepth 20000

/-- The run, and the number in it, of a laid bar. -/
def placeR : List Rn → Int → Option (Rn × Int)
  | [], _ => none
  | r :: l, i => if i < r.count then some (r, i) else placeR l (i - r.count)
def countE (bars : List Br) (rs : List Rn) : Int × Int := if laidB bars rs = true then (countS rs, 0) else (0, 1)
def markE (bars : List Br) (rs : List Rn) (i : Int) : ByteArray × Int :=
  if laidB bars rs = true then (if i < 0 then (⟨#[]⟩, 2) else match placeR rs i with | some (r, _) => (r.mark, 0) | none => (⟨#[]⟩, 2)) else (⟨#[]⟩, 1)
theorem laidB_iff {bars : List Br} {rs : List Rn} : laidB bars rs = true ↔ schedB bars = true ∧ rs.length ≤ 60 ∧ (∀ r ∈ rs, runB bars r = true) ∧ countS rs ≤ 2000 := by
  unfold laidB
  simp only [Bool.and_eq_true, decide_eq_true_iff, List.all_eq_true]
theorem count_le {bars : List Br} {rs : List Rn} (h : laidB bars rs = true) (k : Nat) : 0 ≤ countS (rs.take k) ∧ countS (rs.take k) ≤ countS rs ∧ countS rs ≤ 2000 := by
  obtain ⟨_, _, h3, h4⟩ := laidB_iff.1 h
  have h1 := countS_nonneg (rs := rs.take k) fun r hr => h3 r (List.mem_of_mem_take hr)
  have h2 := countS_nonneg (rs := rs.drop k) fun r hr => h3 r (List.mem_of_mem_drop hr)
  have h5 := countS_append (rs.take k) (rs.drop k)
  rw [List.take_append_drop] at h5
  omega

set_option maxRecDepth 100000 in
set_option maxHeartbeats 2000000 in
theorem count_c (l : List Br) (rs : List Rn) (v u : Value) (w : World) (hl : Bars w v l) (hr : Runs w u rs) : Calls Try.prog 39 #[v, u] w (Ret w (.tuple #[.int .i64 (countE l rs).1, .int .i64 (countE l rs).2])) := by
  have HL := Lib.hid hl
  have HR := Lib.hid hr
  obtain ⟨a, cap, rfl, h2, h3, h4⟩ := hr.shape
  have H4 := Lib.hid h4
  clear hl hr h4
  unfold countE
  cases hv : laidB l rs
  · simp only [Bool.false_eq_true, if_false]
    have HV := Lib.hid hv
    clear hv
    go_enter Try.func39, Try.ntmps39
    go_wp2_with fail
    go_at_call 20; refine (laidValid_v l rs v _ _ HV.out _ (HL.out.below (by (repeat (first | exact grow_refl _ | refine grow_ext _ ?_ | refine grow_alloc _ ?_ | refine grow_drew ?_)))) (HR.out.below (by (repeat (first | exact grow_refl _ | refine grow_ext _ ?_ | refine grow_alloc _ ?_ | refine grow_drew ?_))))).mono ?_; rintro e w' ⟨rfl, x1, rfl⟩
    go_wp2
    go_ret2
    exact Ret.of (by (repeat (first | exact grow_refl _ | refine grow_ext _ ?_ | refine grow_alloc _ ?_ | refine grow_drew ?_)))
  · simp only [if_true]
    have HV := Lib.hid hv
    clear hv
    go_enter Try.func39, Try.ntmps39
    go_wp2_with fail
    go_at_call 20; refine (laidValid_v l rs v _ _ HV.out _ (HL.out.below (by (repeat (first | exact grow_refl _ | refine grow_ext _ ?_ | refine grow_alloc _ ?_ | refine grow_drew ?_)))) (HR.out.below (by (repeat (first | exact grow_refl _ | refine grow_ext _ ?_ | refine grow_alloc _ ?_ | refine grow_drew ?_))))).mono ?_; rintro e w' ⟨rfl, x1, rfl⟩
    go_wp2_with fail
    go_loopw [6, 15] (fun m i wr => ∃ (k : Nat) (R : Int), k ≤ rs.length ∧ i = .int .i64 k ∧ m = .int .i64 R ∧ (0 ≤ R ∧ R ≤ 2000) ∧ R = countS (rs.take k) ∧ (∃ x, wr = ext w x)) (fun _ i _ => rs.length - (intOf i).toNat)
    case atStart => exact ⟨0, 0, by omega, rfl, rfl, by omega, by simp [countS], ext_of (by (repeat (first | exact grow_refl _ | refine grow_ext _ ?_ | refine grow_alloc _ ?_ | refine grow_drew ?_)))⟩
    case round =>
      obtain ⟨k, R, hk, rfl, rfl, hR, hc, ⟨x, rfl⟩⟩ := hrel
      have HC := Lib.hid hc
      obtain ⟨R0, R1⟩ := hR
      clear hc
      by_cases hlt : k < rs.length
      · obtain ⟨_, b0, off, rfl, hbr⟩ := H4.out k hlt
        have q1 : (0 : Int) ≤ (k : Int) := by omega
        have q2 : (k : Int) < (rs.length : Int) := by omega
        have hct := count_take hlt
        have hle := count_le HV.out (k + 1)
        have hcb := runB_count ((laidB_iff.1 HV.out).2.2.1 _ (List.getElem_mem hlt))
        obtain ⟨r, hr⟩ : ∃ r, rs[k] = r := ⟨_, rfl⟩
        rw [hr] at hct hbr hcb
        obtain ⟨c0, c1, c2, c3, c4, c5, c6, c7, c8, c9⟩ := hbr.ext x
        have hsum : 0 ≤ R + r.count ∧ R + r.count ≤ 2000 := by have := HC.out; omega
        have HCT := Lib.hid (show R + r.count = countS (rs.take (k + 1)) by rw [hct, HC.out])
        clear hr hbr hct hle
        go_wp2
        go_roundw
        case rel => exact ⟨k + 1, R + r.count, by omega, by go_num, rfl, hsum, HCT.out, ext_of (by (repeat (first | exact grow_refl _ | refine grow_ext _ ?_ | refine grow_alloc _ ?_ | refine grow_drew ?_)))⟩
        case measure => simp [intOf]; omega
      · obtain rfl : k = rs.length := by omega
        obtain rfl : R = countS rs := by rw [HC.out, List.take_length]
        go_wp2
        go_ret2
        exact Ret.of (by (repeat (first | exact grow_refl _ | refine grow_ext _ ?_ | refine grow_alloc _ ?_ | refine grow_drew ?_)))

set_option maxRecDepth 100000 in
set_option maxHeartbeats 2000000 in
theorem mark_v (l : List Br) (rs : List Rn) (v u : Value) (i : Int) (m : ByteArray) (e : Int) (h : markE l rs i = (m, e)) (himax : i ≤ 9223372036854775807) (w : World) (hl : Bars w v l) (hr : Runs w u rs) : Calls Try.prog 42 #[v, u, .int .i64 i] w (Ret w (.tuple #[.string m, .int .i64 e])) := by
  have HL := Lib.hid hl
  have HR := Lib.hid hr
  obtain ⟨a, cap, rfl, h2, h3, h4⟩ := hr.shape
  have H4 := Lib.hid h4
  clear hl hr h4
  unfold markE at h
  cases hv : laidB l rs
  · rw [hv] at h
    simp only [Bool.false_eq_true, if_false] at h
    cases h
    have HV := Lib.hid hv
    clear hv
    go_enter Try.func42, Try.ntmps42
    go_wp2_with fail
    go_at_call 20; refine (laidValid_v l rs v _ _ HV.out _ (HL.out.below (by (repeat (first | exact grow_refl _ | refine grow_ext _ ?_ | refine grow_alloc _ ?_ | refine grow_drew ?_)))) (HR.out.below (by (repeat (first | exact grow_refl _ | refine grow_ext _ ?_ | refine grow_alloc _ ?_ | refine grow_drew ?_))))).mono ?_; rintro e w' ⟨rfl, x1, rfl⟩
    go_wp2
    go_ret2
    exact Ret.of (by (repeat (first | exact grow_refl _ | refine grow_ext _ ?_ | refine grow_alloc _ ?_ | refine grow_drew ?_)))
  · rw [hv] at h
    simp only [if_true] at h
    have HV := Lib.hid hv
    clear hv
    by_cases hi : i < 0
    · rw [if_pos hi] at h
      cases h
      go_enter Try.func42, Try.ntmps42
      go_wp2_with fail
      go_at_call 20; refine (laidValid_v l rs v _ _ HV.out _ (HL.out.below (by (repeat (first | exact grow_refl _ | refine grow_ext _ ?_ | refine grow_alloc _ ?_ | refine grow_drew ?_)))) (HR.out.below (by (repeat (first | exact grow_refl _ | refine grow_ext _ ?_ | refine grow_alloc _ ?_ | refine grow_drew ?_))))).mono ?_; rintro e w' ⟨rfl, x1, rfl⟩
      go_wp2
      go_ret2
      exact Ret.of (by (repeat (first | exact grow_refl _ | refine grow_ext _ ?_ | refine grow_alloc _ ?_ | refine grow_drew ?_)))
    · rw [if_neg hi] at h
      have H := Lib.hid h
      have hi0 : 0 ≤ i := by omega
      clear h hi
      obtain ⟨o, ho⟩ : ∃ o, placeR rs i = o := ⟨_, rfl⟩
      rw [ho] at H
      have HO := Lib.hid ho
      clear ho
      go_enter Try.func42, Try.ntmps42
      go_wp2_with fail
      go_at_call 20; refine (laidValid_v l rs v _ _ HV.out _ (HL.out.below (by (repeat (first | exact grow_refl _ | refine grow_ext _ ?_ | refine grow_alloc _ ?_ | refine grow_drew ?_)))) (HR.out.below (by (repeat (first | exact grow_refl _ | refine grow_ext _ ?_ | refine grow_alloc _ ?_ | refine grow_drew ?_))))).mono ?_; rintro e w' ⟨rfl, x1, rfl⟩
      go_wp2_with fail
      go_loopw [2, 18] (fun iv j wr => ∃ (k : Nat) (I : Int), k ≤ rs.length ∧ j = .int .i64 k ∧ iv = .int .i64 I ∧ (0 ≤ I ∧ I ≤ 9223372036854775807) ∧ placeR (rs.drop k) I = o ∧ ∃ x, wr = ext w x) (fun _ j _ => rs.length - (intOf j).toNat)
      case atStart => exact ⟨0, i, by omega, rfl, rfl, by omega, HO.out, _, rfl⟩
      case round =>
        obtain ⟨k, I, hk, rfl, rfl, hI, hp, x, rfl⟩ := hrel
        have HP := Lib.hid hp
        obtain ⟨I0, I1⟩ := hI
        clear hp HO
        by_cases hlt : k < rs.length
        · obtain ⟨_, b0, off, rfl, hbr⟩ := H4.out k hlt
          have q1 : (0 : Int) ≤ (k : Int) := by omega
          have q2 : (k : Int) < (rs.length : Int) := by omega
          have hcb := runB_count ((laidB_iff.1 HV.out).2.2.1 _ (List.getElem_mem hlt))
          have hpl := HP.out
          rw [List.drop_eq_getElem_cons hlt, placeR] at hpl
          obtain ⟨r, hr⟩ : ∃ r, rs[k] = r := ⟨_, rfl⟩
          rw [hr] at hbr hcb hpl
          obtain ⟨c0, c1, c2, c3, c4, c5, c6, c7, c8, c9⟩ := hbr.ext x
          clear hr hbr HP
          by_cases hlt2 : I < r.count
          · rw [if_pos hlt2] at hpl
            subst hpl
            have hh := H.out
            simp only [Prod.mk.injEq] at hh
            obtain ⟨h5, h6⟩ := hh
            subst h5 h6
            go_wp2
            go_ret2
            exact Ret.of (by (repeat (first | exact grow_refl _ | refine grow_ext _ ?_ | refine grow_alloc _ ?_ | refine grow_drew ?_)))
          · rw [if_neg hlt2] at hpl
            have HPL := Lib.hid hpl
            clear hpl
            go_wp2
            go_roundw
            case rel => exact ⟨k + 1, I - r.count, by omega, by go_num, rfl, by omega, HPL.out, ext_of (by (repeat (first | exact grow_refl _ | refine grow_ext _ ?_ | refine grow_alloc _ ?_ | refine grow_drew ?_)))⟩
            case measure => simp [intOf]; omega
        · obtain rfl : k = rs.length := by omega
          have hpl := HP.out
          rw [List.drop_length, placeR] at hpl
          subst hpl
          have hh := H.out
          simp only [Prod.mk.injEq] at hh
          obtain ⟨h5, h6⟩ := hh
          subst h5 h6
          clear H HP
          go_wp2
          go_ret2
          exact Ret.of (by (repeat (first | exact grow_refl _ | refine grow_ext _ ?_ | refine grow_alloc _ ?_ | refine grow_drew ?_)))

end Go.Proofs.Ytofjopdcbmaijaa
