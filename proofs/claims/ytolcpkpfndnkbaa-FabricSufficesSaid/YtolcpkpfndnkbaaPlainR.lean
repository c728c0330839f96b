/- The plain law of rows of sheets. -/
import Derived.Test.YtolcpkpfndnkbaaFabE
namespace Go.Proofs.Ytolcpkpfndnkbaa
open Go.RowKit

theorem num_le {t s l n : Int} (h : rangeB t s l = true) (hn : 1 ≤ n) : numI t s l ≤ n ↔ t ≤ (n - 1) * (s - l) + s := by
  obtain ⟨h1, h2, h3⟩ := range_iff.1 h
  have hd : 0 < s - l := by omega
  unfold numI
  by_cases hs : t ≤ s
  · rw [if_pos hs]
    have := Int.mul_nonneg (show 0 ≤ n - 1 by omega) (show 0 ≤ s - l by omega)
    constructor <;> intro _ <;> omega
  · rw [if_neg hs]
    have key : (t - s + (s - l) - 1) / (s - l) < n ↔ t - s + (s - l) - 1 < n * (s - l) := Int.ediv_lt_iff_lt_mul hd
    have e : n * (s - l) = (n - 1) * (s - l) + (s - l) := by rw [Int.sub_mul, Int.one_mul]; omega
    constructor
    · intro h0
      have := key.1 (by omega)
      omega
    · intro h0
      have := key.2 (by omega)
      omega
theorem num_last {t s l : Int} (h : rangeB t s l = true) : t ≤ (numI t s l - 1) * (s - l) + s := (num_le h (num_bound h).1).1 (Int.le_refl _)
theorem num_before {t s l k : Int} (h : rangeB t s l = true) (hk : 0 ≤ k) (hk2 : k ≤ numI t s l - 2) : k * (s - l) + s < t := by
  have := (num_le (n := k + 1) h (by omega))
  rw [show k + 1 - 1 = k by omega] at this
  rcases Int.lt_or_le (k * (s - l) + s) t with h0 | h0
  · exact h0
  · have := this.2 h0
    omega
theorem num_mono {t t' s l l' : Int} (h : rangeB t s l = true) (h' : rangeB t' s l' = true) (ht : t ≤ t') (hl : l ≤ l') : numI t s l ≤ numI t' s l' := by
  have b := (num_bound h').1
  rw [num_le h b]
  have e := num_last h'
  obtain ⟨_, _, _⟩ := range_iff.1 h'
  have : (numI t' s l' - 1) * (s - l') ≤ (numI t' s l' - 1) * (s - l) := Int.mul_le_mul_of_nonneg_left (by omega) (by omega)
  omega

theorem rowL_length' {t s l : Int} (h : rangeB t s l = true) : ((rowL t s l).length : Int) = numI t s l := by
  have := num_bound h
  unfold rowL
  rw [rowTo_length]
  omega
theorem rowL_get {t s l : Int} (_h : rangeB t s l = true) (i : Nat) (hi : i < (rowL t s l).length) : (rowL t s l)[i] = ((i : Int) * (s - l), min ((i : Int) * (s - l) + s) t) := by
  simp only [rowL, rowTo, List.getElem_map, List.getElem_range]
theorem row_first {t s l : Int} (h : rangeB t s l = true) (hi : 0 < (rowL t s l).length) : (rowL t s l)[0].1 = 0 := by
  rw [rowL_get h]; simp
theorem row_end {t s l : Int} (h : rangeB t s l = true) (i : Nat) (hi : i < (rowL t s l).length) (he : i + 1 = (rowL t s l).length) : (rowL t s l)[i].2 = t := by
  rw [rowL_get h]
  have hl := rowL_length' h
  have := num_last h
  have e : (i : Int) = numI t s l - 1 := by omega
  rw [e]
  dsimp only
  omega
theorem row_in {t s l : Int} (h : rangeB t s l = true) (i : Nat) (hi : i < (rowL t s l).length) : (rowL t s l)[i].1 < (rowL t s l)[i].2 ∧ (rowL t s l)[i].2 - (rowL t s l)[i].1 ≤ s := by
  rw [rowL_get h]
  have hl := rowL_length' h
  obtain ⟨h1, h2, h3⟩ := range_iff.1 h
  dsimp only
  rcases Nat.eq_zero_or_pos i with rfl | h0
  · simp; omega
  · have := num_before (k := (i : Int) - 1) h (by omega) (by omega)
    have e : (i : Int) * (s - l) = ((i : Int) - 1) * (s - l) + (s - l) := by rw [Int.sub_mul, Int.one_mul]; omega
    omega
theorem row_next {t s l : Int} (h : rangeB t s l = true) (i : Nat) (hi : i + 1 < (rowL t s l).length) (hi' : i < (rowL t s l).length) :
    (rowL t s l)[i].2 - (rowL t s l)[i + 1].1 = l ∧ (rowL t s l)[i].2 - (rowL t s l)[i].1 = s ∧ (rowL t s l)[i].2 < t := by
  rw [rowL_get h, rowL_get h]
  have hl := rowL_length' h
  dsimp only
  have := num_before (k := (i : Int)) h (by omega) (by omega)
  have e : ((i + 1 : Nat) : Int) * (s - l) = (i : Int) * (s - l) + (s - l) := by rw [Int.natCast_add, Int.add_mul]; simp
  omega

end Go.Proofs.Ytolcpkpfndnkbaa
