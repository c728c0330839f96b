/- PlainG, GapRet, Awake21 in one text. -/
import Derived.Test.YtmhhohancconaaaGreatGapK2
namespace Go.Proofs.YtmhhohancconaaaGreat

theorem gapB_comm (a b : Bx) : gapB a b = gapB b a := by unfold gapB; omega
theorem gapK_comm (L : List Ct) (i k : Nat) : gapK L i k = gapK L k i := gapB_comm _ _
theorem clrIn_le (L : List Ct) (i n : Nat) (b : Int) : clrIn L i n b ≤ b ∧ ∀ k, k < n → clrIn L i n b ≤ gapK L i k := by
  induction n with
  | zero => exact ⟨Int.le_refl _, fun k h => by omega⟩
  | succ n ih =>
    rw [clrIn_succ]
    refine ⟨by omega, fun k h => ?_⟩
    rcases Nat.lt_or_ge k n with h1 | h1
    · have := ih.2 k h1; omega
    · obtain rfl : k = n := by omega
      omega
theorem clrIn_min (L : List Ct) (i n : Nat) (b c : Int) : clrIn L i n (min b c) = min b (clrIn L i n c) := by
  induction n with
  | zero => rfl
  | succ n ih => rw [clrIn_succ, clrIn_succ, ih]; omega
theorem clrIn_or (L : List Ct) (i n : Nat) (b : Int) : clrIn L i n b = b ∨ ∃ k, k < n ∧ clrIn L i n b = gapK L i k := by
  induction n with
  | zero => exact .inl rfl
  | succ n ih =>
    rw [clrIn_succ]
    rcases Int.le_total (clrIn L i n b) (gapK L i n) with h | h
    · rw [Int.min_eq_left h]
      rcases ih with h1 | ⟨k, h1, h2⟩
      · exact .inl h1
      · exact .inr ⟨k, by omega, h2⟩
    · exact .inr ⟨n, by omega, Int.min_eq_right h⟩
theorem clrTo_le (L : List Ct) (n : Nat) (b : Int) : clrTo L n b ≤ b ∧ ∀ i k, k < i → i < n → clrTo L n b ≤ gapK L i k := by
  induction n with
  | zero => exact ⟨Int.le_refl _, fun i k _ h => by omega⟩
  | succ n ih =>
    rw [clrTo_succ]
    have h1 := clrIn_le L n n (clrTo L n b)
    refine ⟨by omega, fun i k hk hi => ?_⟩
    rcases Nat.lt_or_ge i n with h2 | h2
    · have := ih.2 i k hk h2; omega
    · obtain rfl : i = n := by omega
      exact h1.2 k hk
theorem clrTo_min (L : List Ct) (n : Nat) (b c : Int) : clrTo L n (min b c) = min b (clrTo L n c) := by
  induction n with
  | zero => rfl
  | succ n ih => rw [clrTo_succ, clrTo_succ, ih, clrIn_min]
theorem clrTo_or (L : List Ct) (n : Nat) (b : Int) : clrTo L n b = b ∨ ∃ i k, k < i ∧ i < n ∧ clrTo L n b = gapK L i k := by
  induction n with
  | zero => exact .inl rfl
  | succ n ih =>
    rw [clrTo_succ]
    rcases clrIn_or L n n (clrTo L n b) with h | ⟨k, h1, h2⟩
    · rw [h]
      rcases ih with h1 | ⟨i, k, h1, h2, h3⟩
      · exact .inl h1
      · exact .inr ⟨i, k, h1, by omega, h3⟩
    · exact .inr ⟨n, k, h1, by omega, h2⟩
/-- The least gap, found again from one above it. -/
theorem clear_again (L : List Ct) (h : 2 ≤ L.length) : clrTo L L.length (clearI L + 1) = clearI L := by
  have h1 := (clrTo_le L L.length (clearI L + 1)).2 1 0 (by omega) (by omega)
  have h2 := clrTo_min L L.length (clearI L + 1) (gapK L 0 1)
  have h3 := clrTo_min L L.length (gapK L 0 1) (clearI L + 1)
  rw [gapK_comm] at h1
  rw [show min (gapK L 0 1) (clearI L + 1) = min (clearI L + 1) (gapK L 0 1) by omega, h2] at h3
  have h4 : clrTo L L.length (gapK L 0 1) = clearI L := rfl
  rw [h4] at h3
  omega
theorem clear_pair (L : List Ct) (h : 2 ≤ L.length) : ∃ i k, k < i ∧ i < L.length ∧ clearI L = gapK L i k := by
  rcases clrTo_or L L.length (gapK L 0 1) with h1 | ⟨i, k, h1, h2, h3⟩
  · exact ⟨1, 0, by omega, by omega, by rw [← gapK_comm]; exact h1⟩
  · exact ⟨i, k, h1, h2, h3⟩
theorem clear_le (L : List Ct) (i k : Nat) (hk : k < i) (hi : i < L.length) : clearI L ≤ gapK L i k := (clrTo_le L L.length _).2 i k hk hi

theorem count_one (p : Nat → Bool) (n i : Nat) (hi : i < n) (h : p i = true) : 1 ≤ (List.range n).countP p := by
  have := List.countP_pos_iff.2 ⟨i, List.mem_range.2 hi, h⟩; omega
theorem count_two (p : Nat → Bool) (n : Nat) : ∀ i k, k < i → i < n → p i = true → p k = true → 2 ≤ (List.range n).countP p := by
  induction n with
  | zero => intro i k _ h; omega
  | succ n ih =>
    intro i k hk hi hpi hpk
    rw [List.range_succ, List.countP_append]
    rcases Nat.lt_or_ge i n with h | h
    · have := ih i k hk h hpi hpk; omega
    · obtain rfl : i = n := by omega
      have := count_one p i k hk hpk
      have h1 : List.countP p [i] = 1 := by simp [hpi]
      omega
theorem check_len (L : List Ct) (a : Int) (n : Nat) : (checkTo L a n).length = (List.range n).countP fun i => nearTo L a i L.length := by
  induction n with
  | zero => rfl
  | succ n ih =>
    rw [checkTo_succ, List.length_append, ih, List.range_succ, List.countP_append]
    cases h : nearTo L a n L.length <;> simp [h]
theorem nearTo_iff {L : List Ct} {a : Int} {i n : Nat} : nearTo L a i n = true ↔ ∃ k, k < n ∧ tooB L a i k = true := by
  unfold nearTo; simp [List.any_eq_true]
theorem tooB_comm {L : List Ct} {a : Int} {i k : Nat} : tooB L a i k = tooB L a k i := by
  unfold tooB
  rw [gapK_comm, show max (L.getD i noCt).size (L.getD k noCt).size = max (L.getD k noCt).size (L.getD i noCt).size by omega]
  congr 1; apply decide_eq_decide.2; omega
theorem near_two {L : List Ct} {a : Int} {i k : Nat} (hi : i < L.length) (hk : k < L.length) (h : tooB L a i k = true) : 2 ≤ (checkI L a).length := by
  have hne : i ≠ k := by unfold tooB at h; simp only [Bool.and_eq_true, decide_eq_true_iff] at h; exact h.1
  have h1 : nearTo L a i L.length = true := nearTo_iff.2 ⟨k, hk, h⟩
  have h2 : nearTo L a k L.length = true := nearTo_iff.2 ⟨i, hi, by rw [tooB_comm]; exact h⟩
  unfold checkI
  rw [check_len]
  rcases Nat.lt_or_ge k i with h3 | h3
  · exact count_two _ _ i k h3 hi h1 h2
  · exact count_two _ _ k i (by omega) hk h2 h1
theorem check_ne_one (L : List Ct) (a : Int) : (checkI L a).length ≠ 1 := by
  intro h
  have h1 : 0 < (checkI L a).length := by omega
  unfold checkI at h1
  rw [check_len] at h1
  obtain ⟨i, hi, hp⟩ := List.countP_pos_iff.1 h1
  obtain ⟨k, hk, ht⟩ := nearTo_iff.1 hp
  have := near_two (List.mem_range.1 hi) hk ht
  omega
theorem check_le (L : List Ct) (a : Int) : (checkI L a).length ≤ L.length := checkTo_len L a _
theorem check_mono (L : List Ct) {a b : Int} (h : a ≤ b) : (checkI L a).length ≤ (checkI L b).length := by
  unfold checkI
  rw [check_len, check_len]
  refine List.countP_mono_left fun i _ hp => ?_
  obtain ⟨k, hk, ht⟩ := nearTo_iff.1 hp
  refine nearTo_iff.2 ⟨k, hk, ?_⟩
  unfold tooB at ht ⊢
  simp only [Bool.and_eq_true, decide_eq_true_iff] at ht ⊢
  refine ⟨ht.1, ?_⟩
  have h2 := ht.2
  unfold leastI at h2 ⊢
  omega
theorem check_few (L : List Ct) (a : Int) (h : L.length < 2) : (checkI L a).length = 0 := by
  have h1 := check_le L a
  have h2 := check_ne_one L a
  omega
theorem sizeB_range {d : Int} (h : sizeB d = true) : 6 ≤ d ∧ d ≤ 40 := by
  rcases size_iff.1 h with h | h | h | h | h | h | h | h | h <;> omega
theorem clear_small (L : List Ct) (a : Int) (h : 2 ≤ L.length) (hs : ∀ c ∈ L, sizeB c.size = true) (hc : clearI L < leastI 6 a) : 2 ≤ (checkI L a).length := by
  obtain ⟨i, k, hk, hi, e⟩ := clear_pair L h
  refine near_two hi (Nat.lt_trans hk hi) (i := i) (k := k) ?_
  have h1 := sizeB_range (hs (L.getD i noCt) (by rw [List.getD, List.getElem?_eq_getElem hi]; exact List.getElem_mem hi))
  unfold tooB
  simp only [Bool.and_eq_true, decide_eq_true_iff]
  refine ⟨by omega, ?_⟩
  rw [← e]
  unfold leastI at hc ⊢
  omega
theorem clear_great (L : List Ct) (a : Int) (hs : ∀ c ∈ L, sizeB c.size = true) (hc : leastI 40 a ≤ clearI L) : (checkI L a).length = 0 := by
  rcases Nat.eq_zero_or_pos (checkI L a).length with h | h
  · exact h
  exfalso
  unfold checkI at h
  rw [check_len] at h
  obtain ⟨i, hi, hp⟩ := List.countP_pos_iff.1 h
  obtain ⟨k, hk, ht⟩ := nearTo_iff.1 hp
  have hi := List.mem_range.1 hi
  have h1 := sizeB_range (hs (L.getD i noCt) (by rw [List.getD, List.getElem?_eq_getElem hi]; exact List.getElem_mem hi))
  have h2 := sizeB_range (hs (L.getD k noCt) (by rw [List.getD, List.getElem?_eq_getElem hk]; exact List.getElem_mem hk))
  unfold tooB at ht
  simp only [Bool.and_eq_true, decide_eq_true_iff] at ht
  have h3 : clearI L ≤ gapK L i k := by
    rcases Nat.lt_or_ge k i with h3 | h3
    · exact clear_le L i k h3 hi
    · rw [gapK_comm]; exact clear_le L k i (by omega) hk
  have h4 := ht.2
  unfold leastI at hc h4
  omega

end Go.Proofs.YtmhhohancconaaaGreat

namespace Go.Proofs.YtmhhohancconaaaGreat
open Go.RowKit
set_option maxRecDepth 20000

theorem bxs_len {w : World} {M : List Bx} {err : Int} {e : Ending} {W : World} (h : RetBxs w M err e W) :
    ∃ a c, e = .returned (.tuple #[.slice a M.length c, .int .i64 err]) ∧ M.length ≤ c ∧ c ≤ 9223372036854775807 ∧ (∀ i (h : i < M.length), ∃ b off, a = some ⟨b, off, none⟩ ∧ BoxAt W b (off + i * 6) M[i]) ∧ ∃ x, W = ext w x := by
  obtain ⟨v, rfl, hown, x, rfl⟩ := h
  obtain ⟨a, c, rfl, h1, h2, h3⟩ := (Boxes.of_own hown).shape
  exact ⟨a, c, rfl, h1, h2, h3, x, rfl⟩

end Go.Proofs.YtmhhohancconaaaGreat

namespace Go.Proofs.YtmhhohancconaaaGreat
open Go.RowKit
set_option maxRecDepth 20000

def exBar (v : Value) : Br := ⟨⟨#[97]⟩, 20, 3, 0, [1000], v⟩
def exRun : Rn := ⟨⟨#[97]⟩, 1, 2, 0, 0, 0, 0, 40, 0, 3⟩
theorem ex_laid (v : Value) : laidB [exBar v] [exRun] = true := by kernel_rfl
theorem ex_cuts (v : Value) : cutsE [exBar v] [exRun] 500 = ([⟨⟨500, -10, -10, 500, 10, 10⟩, 20, ⟨#[97]⟩⟩, ⟨⟨500, 30, -10, 500, 50, 10⟩, 20, ⟨#[97]⟩⟩, ⟨⟨500, 70, -10, 500, 90, 10⟩, 20, ⟨#[97]⟩⟩], 0) := by kernel_rfl
theorem ex_clear (v : Value) : clearE [exBar v] [exRun] 500 = (20, 0) := by kernel_rfl
theorem ex_check (v : Value) : (checkE [exBar v] [exRun] 20 500).1.length = 3 ∧ (checkE [exBar v] [exRun] 20 500).2 = 0 := by
  unfold checkE
  rw [ex_cuts]
  exact ⟨by kernel_rfl, rfl⟩

end Go.Proofs.YtmhhohancconaaaGreat

