/- The reference's IsName. -/
import Derived.Test.YtafkibnkpcmmgaaName
namespace Go.Proofs.Ytafkibnkpcmmgaa
open Go.RowKit

def inI (n lo hi : Int) : Bool := decide (lo ≤ n) && decide (n ≤ hi)
theorem inI_iff {n lo hi : Int} : inI n lo hi = true ↔ lo ≤ n ∧ n ≤ hi := by unfold inI; simp
theorem inI_false {n lo hi : Int} (h : inI n lo hi = false) : n < lo ∨ hi < n := by
  rcases Int.lt_or_le n lo with h1 | h1
  · exact .inl h1
  · rcases Int.lt_or_le hi n with h2 | h2
    · exact .inr h2
    · rw [inI_iff.2 ⟨h1, h2⟩] at h; cases h

theorem isName_v (s : ByteArray) (r : Bool) (h : nameB s = r) (hs : s.size ≤ 9223372036854775807) (w : World) : Calls Try.prog 63 #[.string s] w (Ret w (.bool r)) := by subst h; exact isName_c s hs w

set_option maxHeartbeats 1000000 in
theorem refWord_c (s : ByteArray) (hs : s.size ≤ 9223372036854775807) (w : World) : Calls Try.prog 98 #[.string s, .int .i64 0] w (Ret w (.int .i64 (wordLen s.data.toList))) := by
  go_enter Try.func98, Try.ntmps98
  go_wp2
  go_loopw [1] (fun i wr => ∃ k : Nat, k ≤ s.size ∧ i = .int .i64 k ∧ (∃ x, wr = ext w x) ∧ k + wordLen (s.data.toList.drop k) = wordLen s.data.toList) (fun i _ => s.size - (intOf i).toNat)
  case atStart => exact ⟨0, Nat.zero_le _, rfl, ext_of (Below.refl _ _), by simp⟩
  case round =>
    obtain ⟨k, hk, rfl, ⟨x, rfl⟩, hw⟩ := hrel
    by_cases hlt : k < s.size
    · have hd : wordLen (s.data.toList.drop k) = if wordI (s[k].toNat : Int) = true then wordLen (s.data.toList.drop (k + 1)) + 1 else 0 := wordLen_drop s.data.toList k (by simpa using hlt)
      have HD := Lib.hid hd
      have HW := Lib.hid hw
      clear hd hw
      have h0 : (0 : Int) ≤ (k : Int) := by omega
      cases hL : letterI (s[k].toNat : Int)
      · cases hDg : digitI (s[k].toNat : Int)
        · by_cases h95 : (s[k].toNat : Int) = 95
          · have hb : ((s[k].toNat : Int) == 95) = true := by simp [h95]
            have HX := Lib.hid (show wordI (s[k].toNat : Int) = true by rw [word_or hL hDg rfl]; simp [h95])
            have HLL := Lib.hid hL
            have HDD := Lib.hid hDg
            clear hL hDg h95
            go_wp2_with fail
            go_at_call 97; refine (refLetter_v _ _ HLL.out _).mono ?_; rintro e w' ⟨rfl, x, rfl⟩
            go_wp2_with fail
            go_at_call 110; refine (refDigit_v _ _ HDD.out _).mono ?_; rintro e w' ⟨rfl, x, rfl⟩
            go_wp2
            go_roundw
            case rel => exact ⟨k + 1, by omega, by go_num, ⟨_, by rw [ext_ext, ext_ext]⟩, by have := HD.out; rw [if_pos HX.out] at this; have := HW.out; omega⟩
            case measure => simp [intOf]; omega
          · have hb : ((s[k].toNat : Int) == 95) = false := by simpa using h95
            have HX := Lib.hid (show ¬ wordI (s[k].toNat : Int) = true by rw [word_or hL hDg rfl]; simpa using h95)
            have HLL := Lib.hid hL
            have HDD := Lib.hid hDg
            clear hL hDg h95
            go_wp2_with fail
            go_at_call 97; refine (refLetter_v _ _ HLL.out _).mono ?_; rintro e w' ⟨rfl, x, rfl⟩
            go_wp2_with fail
            go_at_call 110; refine (refDigit_v _ _ HDD.out _).mono ?_; rintro e w' ⟨rfl, x, rfl⟩
            go_wp2
            go_ret
            exact Ret.int (by have := HD.out; rw [if_neg HX.out] at this; have := HW.out; omega) (by (repeat (first | exact grow_refl _ | refine grow_ext _ ?_ | refine grow_alloc _ ?_ | refine grow_drew ?_)))
        · have HX := Lib.hid (show wordI (s[k].toNat : Int) = true by rw [word_or hL hDg rfl]; simp)
          have HLL := Lib.hid hL
          have HDD := Lib.hid hDg
          clear hL hDg
          go_wp2_with fail
          go_at_call 97; refine (refLetter_v _ _ HLL.out _).mono ?_; rintro e w' ⟨rfl, x, rfl⟩
          go_wp2_with fail
          go_at_call 110; refine (refDigit_v _ _ HDD.out _).mono ?_; rintro e w' ⟨rfl, x, rfl⟩
          go_wp2
          go_roundw
          case rel => exact ⟨k + 1, by omega, by go_num, ⟨_, by rw [ext_ext, ext_ext]⟩, by have := HD.out; rw [if_pos HX.out] at this; have := HW.out; omega⟩
          case measure => simp [intOf]; omega
      · have HX := Lib.hid (show wordI (s[k].toNat : Int) = true by rw [word_or hL rfl rfl]; simp)
        have HLL := Lib.hid hL
        clear hL
        go_wp2_with fail
        go_at_call 97; refine (refLetter_v _ _ HLL.out _).mono ?_; rintro e w' ⟨rfl, x, rfl⟩
        go_wp2
        go_roundw
        case rel => exact ⟨k + 1, by omega, by go_num, ⟨_, by rw [ext_ext]⟩, by have := HD.out; rw [if_pos HX.out] at this; have := HW.out; omega⟩
        case measure => simp [intOf]; omega
    · have HW := Lib.hid hw
      clear hw
      go_wp2
      go_ret
      exact Ret.int (by have := HW.out; rw [List.drop_eq_nil_of_le (by simp; omega)] at this; simp [wordLen] at this; omega) (by (repeat (first | exact grow_refl _ | refine grow_ext _ ?_ | refine grow_alloc _ ?_ | refine grow_drew ?_)))

set_option maxHeartbeats 1000000 in
theorem refIsName_c (s : ByteArray) (hs : s.size ≤ 9223372036854775807) (w : World) : Calls Try.prog 64 #[.string s] w (Ret w (.bool (nameB s))) := by
  rcases Nat.eq_zero_or_pos s.size with h0 | h0
  · have hl : s.data.toList = [] := by rw [size_list] at h0; exact List.eq_nil_of_length_eq_zero h0
    have HN := Lib.hid (nameB_nil hl)
    have he : ((s.size : Int) == 0) = true := by simp [h0]
    clear hl
    go_enter Try.func64, Try.ntmps64
    go_wp2
    go_ret
    rw [HN.out]
    exact Ret.of (by (repeat (first | exact grow_refl _ | refine grow_ext _ ?_ | refine grow_alloc _ ?_ | refine grow_drew ?_)))
  · have he : ((s.size : Int) == 0) = false := beq_eq_false_iff_ne.2 (by omega)
    have h0i : (0 : Int) < (s.size : Int) := by omega
    by_cases h20 : s.size ≤ 20
    · have hd20 : decide ((20 : Int) < (s.size : Int)) = false := by simp; omega
      cases hL : letterI (s[0].toNat : Int)
      · have HN := Lib.hid (nameB_cons h0 hL)
        have HLL := Lib.hid hL
        clear hL
        go_enter Try.func64, Try.ntmps64
        go_wp2_with fail
        go_at_call 97; refine (refLetter_v _ _ HLL.out _).mono ?_; rintro e w' ⟨rfl, x, rfl⟩
        go_wp2
        go_ret
        rw [HN.out]
        exact Ret.bool (by simp) (by (repeat (first | exact grow_refl _ | refine grow_ext _ ?_ | refine grow_alloc _ ?_ | refine grow_drew ?_)))
      · have HN := Lib.hid (nameB_cons h0 hL)
        have HLL := Lib.hid hL
        clear hL
        have hw := wordLen_le s.data.toList
        rw [← size_list] at hw
        go_enter Try.func64, Try.ntmps64
        go_wp2_with fail
        go_at_call 97; refine (refLetter_v _ _ HLL.out _).mono ?_; rintro e w' ⟨rfl, x, rfl⟩
        go_wp2_with fail
        go_at_call 98; refine (refWord_c s hs _).mono ?_; rintro e w' ⟨rfl, x, rfl⟩
        go_wp2
        go_ret
        rw [HN.out]
        exact Ret.bool (by rw [Bool.eq_iff_iff]; simp <;> omega) (by (repeat (first | exact grow_refl _ | refine grow_ext _ ?_ | refine grow_alloc _ ?_ | refine grow_drew ?_)))
    · obtain ⟨a, ha⟩ : ∃ a, letterI (s[0].toNat : Int) = a := ⟨_, rfl⟩
      have HN := Lib.hid (nameB_cons h0 ha)
      have hd20 : decide ((20 : Int) < (s.size : Int)) = true := by simp; omega
      clear ha
      go_enter Try.func64, Try.ntmps64
      go_wp2
      go_ret
      rw [HN.out]
      exact Ret.bool (by rw [Bool.eq_iff_iff]; simp <;> omega) (by (repeat (first | exact grow_refl _ | refine grow_ext _ ?_ | refine grow_alloc _ ?_ | refine grow_drew ?_)))
theorem refIsName_v (s : ByteArray) (r : Bool) (h : nameB s = r) (hs : s.size ≤ 9223372036854775807) (w : World) : Calls Try.prog 64 #[.string s] w (Ret w (.bool r)) := by subst h; exact refIsName_c s hs w


end Go.Proofs.Ytafkibnkpcmmgaa
