/- Name, NameR in one text. -/
import Derived.Test.YtkjljneehgmmaaaGreatBoxK
import Derived.Laws.Closers25
namespace Go.Proofs.YtkjljneehgmmaaaGreat
open Go.RowKit
set_option maxRecDepth 20000
set_option maxHeartbeats 1000000

def letterI (n : Int) : Bool := (decide (97 ≤ n) && decide (n ≤ 122)) || (decide (65 ≤ n) && decide (n ≤ 90))
def digitI (n : Int) : Bool := decide (48 ≤ n) && decide (n ≤ 57)
def wordI (n : Int) : Bool := letterI n || digitI n || decide (n = 95)
def wordLen : List UInt8 → Nat
 | [] => 0
 | c :: r => if wordI c.toNat = true then wordLen r + 1 else 0
def nameB (s : ByteArray) : Bool := match s.data.toList with
 | [] => false
 | c :: r => decide (r.length + 1 ≤ 20) && letterI c.toNat && decide (wordLen (c :: r) = r.length + 1)

theorem letter_tri (n : Int) : (97 ≤ n ∧ n ≤ 122) ∨ (65 ≤ n ∧ n ≤ 90) ∨ n < 65 ∨ (90 < n ∧ n < 97) ∨ 122 < n := by omega

theorem letter_c (n : Int) (w : World) : Calls Tryz.prog 103 #[.int .u8 n] w (Ret w (.bool (letterI n))) := by
 rcases letter_tri n with h | h | h | h | h
 all_goals
  obtain ⟨r, hr⟩ : ∃ r, letterI n = r := ⟨_, rfl⟩
  rw [hr]
  have HR := hd0 hr
  clear hr
  go_enter Tryz.func103, Tryz.ntmps103
  go_wp2
  all_goals
   go_ret
   exact Ret.bool (by rw [← HR.out]; unfold letterI; symm; first | (simp <;> omega) | (rw [Bool.eq_iff_iff]; simp only [Bool.or_eq_true, Bool.and_eq_true, decide_eq_true_eq]; omega)) gro

theorem digit_c (n : Int) (w : World) : Calls Tryz.prog 163 #[.int .u8 n] w (Ret w (.bool (digitI n))) := by
 go_enter Tryz.func163, Tryz.ntmps163
 go_wp2
 all_goals
  go_ret
  exact Ret.bool (by unfold digitI; first | rfl | (simp <;> omega) | omega) gro

theorem refLetter_c (n : Int) (w : World) : Calls Tryz.prog 147 #[.int .u8 n] w (Ret w (.bool (letterI n))) := by
 rcases letter_tri n with h | h | h | h | h
 all_goals
  obtain ⟨r, hr⟩ : ∃ r, letterI n = r := ⟨_, rfl⟩
  rw [hr]
  have HR := hd0 hr
  clear hr
  go_enter Tryz.func147, Tryz.ntmps147
  go_wp2
  all_goals
   go_ret
   exact Ret.bool (by rw [← HR.out]; unfold letterI; symm; first | (simp <;> omega) | (rw [Bool.eq_iff_iff]; simp only [Bool.or_eq_true, Bool.and_eq_true, decide_eq_true_eq]; omega)) gro

theorem refDigit_c (n : Int) (w : World) : Calls Tryz.prog 204 #[.int .u8 n] w (Ret w (.bool (digitI n))) := by
 go_enter Tryz.func204, Tryz.ntmps204
 go_wp2
 all_goals
  go_ret
  exact Ret.bool (by unfold digitI; first | rfl | (simp <;> omega) | omega) gro

theorem letter_v (n : Int) (r : Bool) (h : letterI n = r) (w : World) : Calls Tryz.prog 103 #[.int .u8 n] w (Ret w (.bool r)) := by subst h; exact letter_c n w
theorem digit_v (n : Int) (r : Bool) (h : digitI n = r) (w : World) : Calls Tryz.prog 163 #[.int .u8 n] w (Ret w (.bool r)) := by subst h; exact digit_c n w
theorem refLetter_v (n : Int) (r : Bool) (h : letterI n = r) (w : World) : Calls Tryz.prog 147 #[.int .u8 n] w (Ret w (.bool r)) := by subst h; exact refLetter_c n w
theorem refDigit_v (n : Int) (r : Bool) (h : digitI n = r) (w : World) : Calls Tryz.prog 204 #[.int .u8 n] w (Ret w (.bool r)) := by subst h; exact refDigit_c n w

theorem wordLen_drop (l : List UInt8) (k : Nat) (h : k < l.length) : wordLen (l.drop k) = if wordI l[k].toNat = true then wordLen (l.drop (k + 1)) + 1 else 0 := by
 rw [List.drop_eq_getElem_cons h]; rfl
theorem wordLen_le (l : List UInt8) : wordLen l ≤ l.length := by
 induction l with
 | nil => simp [wordLen]
 | cons c r ih => unfold wordLen; split <;> simp <;> omega

theorem word_or {a b c : Bool} {n : Int} (ha : letterI n = a) (hb : digitI n = b) (hc : decide (n = 95) = c) : wordI n = (a || b || c) := by subst ha hb hc; rfl

theorem word_c (s : ByteArray) (hs : s.size ≤ 9223372036854775807) (w : World) : Calls Tryz.prog 104 #[.string s] w (Ret w (.int .i64 (wordLen s.data.toList))) := by
 go_enter Tryz.func104, Tryz.ntmps104
 go_wp2
 go_loopw [3] (fun i wr => ∃ k : Nat, k ≤ s.size ∧ i = .int .i64 k ∧ (∃ x, wr = ext w x) ∧ k + wordLen (s.data.toList.drop k) = wordLen s.data.toList) (fun i _ => s.size - (intOf i).toNat)
 case atStart => exact ⟨0, Nat.zero_le _, rfl, ext_of (Below.refl _ _), by simp⟩
 case round =>
  obtain ⟨k, hk, rfl, ⟨x, rfl⟩, hw⟩ := hrel
  by_cases hlt : k < s.size
  ·have hd : wordLen (s.data.toList.drop k) = if wordI (s[k].toNat : Int) = true then wordLen (s.data.toList.drop (k + 1)) + 1 else 0 := wordLen_drop s.data.toList k (by simpa using hlt)
   have HD := hd0 hd
   have HW := hd0 hw
   clear hd hw
   have h0 : (0 : Int) ≤ (k : Int) := by omega
   cases hL : letterI (s[k].toNat : Int)
   ·cases hDg : digitI (s[k].toNat : Int)
    ·by_cases h95 : (s[k].toNat : Int) = 95
     ·have hb : ((s[k].toNat : Int) == 95) = true := by simp [h95]
      have HX := hd0 (show wordI (s[k].toNat : Int) = true by rw [word_or hL hDg rfl]; simp [h95])
      have HLL := hd0 hL
      have HDD := hd0 hDg
      clear hL hDg h95
      go_wp2_with fail
      go_at_call 103; refine (letter_v _ _ HLL.out _).mono ?_; rintro e w' ⟨rfl, x, rfl⟩
      go_wp2_with fail
      go_at_call 163; refine (digit_v _ _ HDD.out _).mono ?_; rintro e w' ⟨rfl, x, rfl⟩
      go_wp2
      go_roundw
      case rel => exact ⟨k + 1, by omega, by go_num, ⟨_, by rw [ext_ext, ext_ext]⟩, by have := HD.out; rw [if_pos HX.out] at this; have := HW.out; omega⟩
      case measure => simp [intOf]; omega
     ·have hb : ((s[k].toNat : Int) == 95) = false := by simpa using h95
      have HX := hd0 (show ¬ wordI (s[k].toNat : Int) = true by rw [word_or hL hDg rfl]; simpa using h95)
      have HLL := hd0 hL
      have HDD := hd0 hDg
      clear hL hDg h95
      go_wp2_with fail
      go_at_call 103; refine (letter_v _ _ HLL.out _).mono ?_; rintro e w' ⟨rfl, x, rfl⟩
      go_wp2_with fail
      go_at_call 163; refine (digit_v _ _ HDD.out _).mono ?_; rintro e w' ⟨rfl, x, rfl⟩
      go_wp2
      go_ret
      exact Ret.int (by have := HD.out; rw [if_neg HX.out] at this; have := HW.out; omega) gro
    ·have HX := hd0 (show wordI (s[k].toNat : Int) = true by rw [word_or hL hDg rfl]; simp)
     have HLL := hd0 hL
     have HDD := hd0 hDg
     clear hL hDg
     go_wp2_with fail
     go_at_call 103; refine (letter_v _ _ HLL.out _).mono ?_; rintro e w' ⟨rfl, x, rfl⟩
     go_wp2_with fail
     go_at_call 163; refine (digit_v _ _ HDD.out _).mono ?_; rintro e w' ⟨rfl, x, rfl⟩
     go_wp2
     go_roundw
     case rel => exact ⟨k + 1, by omega, by go_num, ⟨_, by rw [ext_ext, ext_ext]⟩, by have := HD.out; rw [if_pos HX.out] at this; have := HW.out; omega⟩
     case measure => simp [intOf]; omega
   ·have HX := hd0 (show wordI (s[k].toNat : Int) = true by rw [word_or hL rfl rfl]; simp)
    have HLL := hd0 hL
    clear hL
    go_wp2_with fail
    go_at_call 103; refine (letter_v _ _ HLL.out _).mono ?_; rintro e w' ⟨rfl, x, rfl⟩
    go_wp2
    go_roundw
    case rel => exact ⟨k + 1, by omega, by go_num, ⟨_, by rw [ext_ext]⟩, by have := HD.out; rw [if_pos HX.out] at this; have := HW.out; omega⟩
    case measure => simp [intOf]; omega
  ·have HW := hd0 hw
   clear hw
   go_wp2
   go_ret
   exact Ret.int (by have := HW.out; rw [List.drop_eq_nil_of_le (by simp; omega)] at this; simp [wordLen] at this; omega) gro

theorem size_list (s : ByteArray) : s.size = s.data.toList.length := by simp
theorem nameB_nil {s : ByteArray} (h : s.data.toList = []) : nameB s = false := by unfold nameB; rw [h]
theorem nameB_cons {s : ByteArray} {a : Bool} (h0 : 0 < s.size) (hl : letterI (s[0].toNat : Int) = a) :
  nameB s = (decide (s.size ≤ 20) && a && decide (wordLen s.data.toList = s.size)) := by
 subst hl
 have h1 : 0 < s.data.toList.length := by rw [← size_list]; exact h0
 show nameB s = (decide (s.data.toList.length ≤ 20) && letterI ((s.data.toList[0]'h1).toNat : Int) && decide (wordLen s.data.toList = s.data.toList.length))
 revert h1
 unfold nameB
 generalize s.data.toList = l
 intro h1
 cases l with
 | nil => simp at h1
 | cons c r => rfl
theorem isEmpty_nil {s : ByteArray} (h : s.size = 0) : s.toList.isEmpty = true := by
 rw [← Go.decide_eq_emptyBytes]
 simp only [decide_eq_true_eq]
 obtain ⟨⟨l⟩⟩ := s
 cases l with
 | nil => rfl
 | cons c r => simp [ByteArray.size] at h
theorem isEmpty_pos {s : ByteArray} (h : 0 < s.size) : s.toList.isEmpty = false := by
 rw [← Go.decide_eq_emptyBytes]
 simp only [decide_eq_false_iff_not]
 rintro rfl
 simp at h

theorem isName_c (s : ByteArray) (hs : s.size ≤ 9223372036854775807) (w : World) : Calls Tryz.prog 55 #[.string s] w (Ret w (.bool (nameB s))) := by
 rcases Nat.eq_zero_or_pos s.size with h0 | h0
 ·have hl : s.data.toList = [] := by rw [size_list] at h0; exact List.eq_nil_of_length_eq_zero h0
  have HN := hd0 (nameB_nil hl)
  have he := isEmpty_nil h0
  have hs0 : (s.size : Int) = 0 := by omega
  go_enter Tryz.func55, Tryz.ntmps55
  go_wp2
  go_ret
  rw [HN.out]
  exact Ret.of gro
 ·have he := isEmpty_pos h0
  have h0i : (0 : Int) < (s.size : Int) := by omega
  by_cases h20 : s.size ≤ 20
  ·cases hL : letterI (s[0].toNat : Int)
   ·have HN := hd0 (nameB_cons h0 hL)
    have HLL := hd0 hL
    clear hL
    go_enter Tryz.func55, Tryz.ntmps55
    go_wp2_with fail
    go_at_call 103; refine (letter_v _ _ HLL.out _).mono ?_; rintro e w' ⟨rfl, x, rfl⟩
    go_wp2
    go_ret
    rw [HN.out]
    exact Ret.bool (by simp) gro
   ·have HN := hd0 (nameB_cons h0 hL)
    have HLL := hd0 hL
    clear hL
    have hw := wordLen_le s.data.toList
    rw [← size_list] at hw
    go_enter Tryz.func55, Tryz.ntmps55
    go_wp2_with fail
    go_at_call 103; refine (letter_v _ _ HLL.out _).mono ?_; rintro e w' ⟨rfl, x, rfl⟩
    go_wp2_with fail
    go_at_call 104; refine (word_c s hs _).mono ?_; rintro e w' ⟨rfl, x, rfl⟩
    go_wp2
    go_ret
    rw [HN.out]
    exact Ret.bool (by rw [Bool.eq_iff_iff]; simp <;> omega) gro
  ·obtain ⟨a, ha⟩ : ∃ a, letterI (s[0].toNat : Int) = a := ⟨_, rfl⟩
   have HN := hd0 (nameB_cons h0 ha)
   have h20' : decide ((s.size : Int) ≤ 20) = false := by simp; omega
   clear ha
   go_enter Tryz.func55, Tryz.ntmps55
   go_wp2
   go_ret
   rw [HN.out]
   exact Ret.bool (by rw [Bool.eq_iff_iff]; simp <;> omega) gro

set_option maxHeartbeats 1000000

def inI (n lo hi : Int) : Bool := decide (lo ≤ n) && decide (n ≤ hi)
theorem inI_iff {n lo hi : Int} : inI n lo hi = true ↔ lo ≤ n ∧ n ≤ hi := by unfold inI; simp
theorem inI_false {n lo hi : Int} (h : inI n lo hi = false) : n < lo ∨ hi < n := by
 rcases Int.lt_or_le n lo with h1 | h1
 ·exact .inl h1
 ·rcases Int.lt_or_le hi n with h2 | h2
  ·exact .inr h2
  ·rw [inI_iff.2 ⟨h1, h2⟩] at h; cases h

theorem isName_v (s : ByteArray) (r : Bool) (h : nameB s = r) (hs : s.size ≤ 9223372036854775807) (w : World) : Calls Tryz.prog 55 #[.string s] w (Ret w (.bool r)) := by subst h; exact isName_c s hs w

theorem refWord_c (s : ByteArray) (hs : s.size ≤ 9223372036854775807) (w : World) : Calls Tryz.prog 148 #[.string s, .int .i64 0] w (Ret w (.int .i64 (wordLen s.data.toList))) := by
 go_enter Tryz.func148, Tryz.ntmps148
 go_wp2
 go_loopw [1] (fun i wr => ∃ k : Nat, k ≤ s.size ∧ i = .int .i64 k ∧ (∃ x, wr = ext w x) ∧ k + wordLen (s.data.toList.drop k) = wordLen s.data.toList) (fun i _ => s.size - (intOf i).toNat)
 case atStart => exact ⟨0, Nat.zero_le _, rfl, ext_of (Below.refl _ _), by simp⟩
 case round =>
  obtain ⟨k, hk, rfl, ⟨x, rfl⟩, hw⟩ := hrel
  by_cases hlt : k < s.size
  ·have hd : wordLen (s.data.toList.drop k) = if wordI (s[k].toNat : Int) = true then wordLen (s.data.toList.drop (k + 1)) + 1 else 0 := wordLen_drop s.data.toList k (by simpa using hlt)
   have HD := hd0 hd
   have HW := hd0 hw
   clear hd hw
   have h0 : (0 : Int) ≤ (k : Int) := by omega
   cases hL : letterI (s[k].toNat : Int)
   ·cases hDg : digitI (s[k].toNat : Int)
    ·by_cases h95 : (s[k].toNat : Int) = 95
     ·have hb : ((s[k].toNat : Int) == 95) = true := by simp [h95]
      have HX := hd0 (show wordI (s[k].toNat : Int) = true by rw [word_or hL hDg rfl]; simp [h95])
      have HLL := hd0 hL
      have HDD := hd0 hDg
      clear hL hDg h95
      go_wp2_with fail
      go_at_call 147; refine (refLetter_v _ _ HLL.out _).mono ?_; rintro e w' ⟨rfl, x, rfl⟩
      go_wp2_with fail
      go_at_call 204; refine (refDigit_v _ _ HDD.out _).mono ?_; rintro e w' ⟨rfl, x, rfl⟩
      go_wp2
      go_roundw
      case rel => exact ⟨k + 1, by omega, by go_num, ⟨_, by rw [ext_ext, ext_ext]⟩, by have := HD.out; rw [if_pos HX.out] at this; have := HW.out; omega⟩
      case measure => simp [intOf]; omega
     ·have hb : ((s[k].toNat : Int) == 95) = false := by simpa using h95
      have HX := hd0 (show ¬ wordI (s[k].toNat : Int) = true by rw [word_or hL hDg rfl]; simpa using h95)
      have HLL := hd0 hL
      have HDD := hd0 hDg
      clear hL hDg h95
      go_wp2_with fail
      go_at_call 147; refine (refLetter_v _ _ HLL.out _).mono ?_; rintro e w' ⟨rfl, x, rfl⟩
      go_wp2_with fail
      go_at_call 204; refine (refDigit_v _ _ HDD.out _).mono ?_; rintro e w' ⟨rfl, x, rfl⟩
      go_wp2
      go_ret
      exact Ret.int (by have := HD.out; rw [if_neg HX.out] at this; have := HW.out; omega) gro
    ·have HX := hd0 (show wordI (s[k].toNat : Int) = true by rw [word_or hL hDg rfl]; simp)
     have HLL := hd0 hL
     have HDD := hd0 hDg
     clear hL hDg
     go_wp2_with fail
     go_at_call 147; refine (refLetter_v _ _ HLL.out _).mono ?_; rintro e w' ⟨rfl, x, rfl⟩
     go_wp2_with fail
     go_at_call 204; refine (refDigit_v _ _ HDD.out _).mono ?_; rintro e w' ⟨rfl, x, rfl⟩
     go_wp2
     go_roundw
     case rel => exact ⟨k + 1, by omega, by go_num, ⟨_, by rw [ext_ext, ext_ext]⟩, by have := HD.out; rw [if_pos HX.out] at this; have := HW.out; omega⟩
     case measure => simp [intOf]; omega
   ·have HX := hd0 (show wordI (s[k].toNat : Int) = true by rw [word_or hL rfl rfl]; simp)
    have HLL := hd0 hL
    clear hL
    go_wp2_with fail
    go_at_call 147; refine (refLetter_v _ _ HLL.out _).mono ?_; rintro e w' ⟨rfl, x, rfl⟩
    go_wp2
    go_roundw
    case rel => exact ⟨k + 1, by omega, by go_num, ⟨_, by rw [ext_ext]⟩, by have := HD.out; rw [if_pos HX.out] at this; have := HW.out; omega⟩
    case measure => simp [intOf]; omega
  ·have HW := hd0 hw
   clear hw
   go_wp2
   go_ret
   exact Ret.int (by have := HW.out; rw [List.drop_eq_nil_of_le (by simp; omega)] at this; simp [wordLen] at this; omega) gro

theorem refIsName_c (s : ByteArray) (hs : s.size ≤ 9223372036854775807) (w : World) : Calls Tryz.prog 92 #[.string s] w (Ret w (.bool (nameB s))) := by
 rcases Nat.eq_zero_or_pos s.size with h0 | h0
 ·have hl : s.data.toList = [] := by rw [size_list] at h0; exact List.eq_nil_of_length_eq_zero h0
  have HN := hd0 (nameB_nil hl)
  have he : ((s.size : Int) == 0) = true := by simp [h0]
  clear hl
  go_enter Tryz.func92, Tryz.ntmps92
  go_wp2
  go_ret
  rw [HN.out]
  exact Ret.of gro
 ·have he : ((s.size : Int) == 0) = false := beq_eq_false_iff_ne.2 (by omega)
  have h0i : (0 : Int) < (s.size : Int) := by omega
  by_cases h20 : s.size ≤ 20
  ·have hd20 : decide ((20 : Int) < (s.size : Int)) = false := by simp; omega
   cases hL : letterI (s[0].toNat : Int)
   ·have HN := hd0 (nameB_cons h0 hL)
    have HLL := hd0 hL
    clear hL
    go_enter Tryz.func92, Tryz.ntmps92
    go_wp2_with fail
    go_at_call 147; refine (refLetter_v _ _ HLL.out _).mono ?_; rintro e w' ⟨rfl, x, rfl⟩
    go_wp2
    go_ret
    rw [HN.out]
    exact Ret.bool (by simp) gro
   ·have HN := hd0 (nameB_cons h0 hL)
    have HLL := hd0 hL
    clear hL
    have hw := wordLen_le s.data.toList
    rw [← size_list] at hw
    go_enter Tryz.func92, Tryz.ntmps92
    go_wp2_with fail
    go_at_call 147; refine (refLetter_v _ _ HLL.out _).mono ?_; rintro e w' ⟨rfl, x, rfl⟩
    go_wp2_with fail
    go_at_call 148; refine (refWord_c s hs _).mono ?_; rintro e w' ⟨rfl, x, rfl⟩
    go_wp2
    go_ret
    rw [HN.out]
    exact Ret.bool (by rw [Bool.eq_iff_iff]; simp <;> omega) gro
  ·obtain ⟨a, ha⟩ : ∃ a, letterI (s[0].toNat : Int) = a := ⟨_, rfl⟩
   have HN := hd0 (nameB_cons h0 ha)
   have hd20 : decide ((20 : Int) < (s.size : Int)) = true := by simp; omega
   clear ha
   go_enter Tryz.func92, Tryz.ntmps92
   go_wp2
   go_ret
   rw [HN.out]
   exact Ret.bool (by rw [Bool.eq_iff_iff]; simp <;> omega) gro
theorem refIsName_v (s : ByteArray) (r : Bool) (h : nameB s = r) (hs : s.size ≤ 9223372036854775807) (w : World) : Calls Tryz.prog 92 #[.string s] w (Ret w (.bool r)) := by subst h; exact refIsName_c s hs w


end Go.Proofs.YtkjljneehgmmaaaGreat

