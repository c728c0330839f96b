/- Plain law of GapsFits: straight bars side by side. -/
import Derived.Test.YtofjopdcbmaijaaPlainG
namespace Go.Proofs.Ytofjopdcbmaijaa

def fitBar (d n : Int) (v : Value) : Br := ⟨⟨#[97]⟩, d, n, 0, [100], v⟩
def fitRun (s n : Int) : Rn := ⟨⟨#[97]⟩, 1, 2, 0, 0, 0, 0, s, 0, n⟩
def fitCut (d s : Int) (i : Nat) : Ct := ⟨⟨50, (i : Int) * s - halfI d, -halfI d, 50, (i : Int) * s + halfI d, halfI d⟩, d, ⟨#[97]⟩⟩
def fitL (d s : Int) (N : Nat) : List Ct := (List.range N).map (fitCut d s)

theorem fit_path (d n : Int) (v : Value) : pathL (fitBar d n v) = [⟨0, 0, 0⟩, ⟨100, 0, 0⟩] := by kernel_rfl
theorem fit_laidL (d n s m : Int) (v : Value) (k : Int) : laidL (fitBar d n v) (fitRun s m) k = [⟨0, k * s, 0⟩, ⟨100, k * s, 0⟩] := by
  unfold laidL
  rw [fit_path]
  simp [laidP, imgP, unitP, crossP, fitRun]
theorem fit_find (d n : Int) (v : Value) : findI [fitBar d n v] ⟨#[97]⟩ = 0 := by kernel_rfl
theorem fit_barOf (d n : Int) (v : Value) : barOf [fitBar d n v] ⟨#[97]⟩ = fitBar d n v := by
  unfold barOf; rw [fit_find]; rfl
theorem fit_near {x y : Int} (hx : 0 ≤ x ∧ x ≤ 100) (hy : 0 ≤ y ∧ y ≤ 100000) : nearB ⟨x, y, 0⟩ 1048576 = true := by
  rw [near_iff]; unfold NearP; simp only; omega
theorem fit_laid (d s n : Int) (v : Value) (hd : sizeB d = true) (hn : 2 ≤ n ∧ n ≤ 12) (hs : 1 ≤ s ∧ s ≤ 1000) : laidB [fitBar d n v] [fitRun s n] = true := by
  have hm := mul_range (k := n - 1) (s := s) (m := 11) (b := 1000) (by omega) (by omega)
  have hm0 : 0 ≤ (n - 1) * s := Int.mul_nonneg (by omega) (by omega)
  rw [laidB_iff]
  refine ⟨?_, (show (1 : Nat) ≤ 60 by decide), ?_, ?_⟩
  · unfold schedB
    simp only [Bool.and_eq_true, decide_eq_true_iff, List.all_eq_true, List.length_cons, List.length_nil]
    refine ⟨by omega, fun i hi => ?_⟩
    obtain rfl : i = 0 := by have := List.mem_range.1 hi; omega
    refine ⟨?_, fit_find d n v⟩
    show shapeB (fitBar d n v) = true
    unfold shapeB
    simp only [Bool.and_eq_true, decide_eq_true_iff]
    refine ⟨by kernel_rfl, by kernel_rfl, hd, ?_, ?_, by kernel_rfl, by kernel_rfl⟩
    · show 1 ≤ n; omega
    · show n ≤ 1000; omega
  · intro r hr
    obtain rfl : r = fitRun s n := by simpa using hr
    unfold runB
    rw [show (fitRun s n).mark = ⟨#[97]⟩ from rfl, fit_barOf, fit_find]
    unfold rightR
    rw [fit_laidL, fit_laidL]
    simp only [Bool.and_eq_true, Bool.or_eq_true, decide_eq_true_iff, List.all_eq_true, Bool.not_eq_true', Bool.and_eq_false_iff, decide_eq_false_iff_not]
    refine ⟨by omega, by kernel_rfl, by show 1 ≤ n; omega, by show n ≤ 1000; omega, by kernel_rfl, .inr ⟨.inr (.inl (show ¬ s = 0 by omega)), ?_⟩, ?_, ?_⟩
    · show nearB ⟨0, s, 0⟩ 2097152 = true
      rw [near_iff]; unfold NearP; simp only; omega
    · intro p hp
      simp only [List.mem_cons, List.not_mem_nil, or_false] at hp
      rcases hp with rfl | rfl <;> exact fit_near (by omega) (by omega)
    · intro p hp
      simp only [List.mem_cons, List.not_mem_nil, or_false] at hp
      rcases hp with rfl | rfl <;> exact fit_near (by omega) (show 0 ≤ (n - 1) * s ∧ (n - 1) * s ≤ 100000 by omega)
  · show n + 0 ≤ 2000; omega
theorem fit_at (d n s m : Int) (v : Value) (i : Nat) (h : (i : Int) < m) : cutsAt [fitBar d n v] [fitRun s m] 50 i = [fitCut d s i] := by
  have hp : placeR [fitRun s m] i = some (fitRun s m, (i : Int)) := by
    unfold placeR; exact if_pos (show (i : Int) < (fitRun s m).count from h)
  have hm : markI [fitRun s m] i = ⟨#[97]⟩ := by unfold markI; rw [hp]; rfl
  unfold cutsAt sizeI legsI pathI
  rw [hm, hp, fit_barOf]
  simp only
  rw [show (fitRun s m).mark = ⟨#[97]⟩ from rfl, fit_barOf, fit_laidL]
  have hl : legsP [(⟨0, (i : Int) * s, 0⟩ : Pt), ⟨100, (i : Int) * s, 0⟩] = [⟨0, (i : Int) * s, 0, 100, (i : Int) * s, 0⟩] := by
    simp only [legsP, legB, Int.min_self, Int.max_self]; rfl
  rw [hl]
  have hc : cutOf (fitBar d n v).size ⟨#[97]⟩ 50 ⟨0, (i : Int) * s, 0, 100, (i : Int) * s, 0⟩ = some (fitCut d s i) := by
    have h0 : alongB 50 ⟨0, (i : Int) * s, 0, 100, (i : Int) * s, 0⟩ = true := by unfold alongB inI; simp
    unfold cutOf
    rw [if_pos h0]
    simp only [cutBox, fitCut, fitBar, Int.zero_sub, Int.zero_add]
  simp only [List.filterMap_cons, hc, List.filterMap_nil]
theorem fit_to (d n s m : Int) (v : Value) (N : Nat) (h : (N : Int) ≤ m) : cutsTo [fitBar d n v] [fitRun s m] 50 N = fitL d s N := by
  induction N with
  | zero => rfl
  | succ N ih =>
    rw [cutsTo_succ, ih (by omega), fit_at d n s m v N (by omega)]
    unfold fitL
    rw [List.range_succ, List.map_append]; rfl
theorem fit_cuts (d s n : Int) (v : Value) (hd : sizeB d = true) (hn : 2 ≤ n ∧ n ≤ 12) (hs : 1 ≤ s ∧ s ≤ 1000) : cutsE [fitBar d n v] [fitRun s n] 50 = (fitL d s n.toNat, 0) := by
  unfold cutsE
  rw [if_pos (fit_laid d s n v hd hn hs), if_pos (by decide)]
  unfold cutsI
  rw [show countS [fitRun s n] = n from by show n + 0 = n; omega, fit_to d n s n v n.toNat (by omega)]

theorem fitL_len (d s : Int) (N : Nat) : (fitL d s N).length = N := by simp [fitL]
theorem fitL_get (d s : Int) (N i : Nat) (h : i < N) : (fitL d s N).getD i noCt = fitCut d s i := by
  rw [getD_lt (by rw [fitL_len]; exact h)]; simp [fitL]
theorem fit_gap (d s : Int) (N i k : Nat) (hi : i < N) (hk : k < N) : gapK (fitL d s N) i k = max ((k : Int) * s - (i : Int) * s - 2 * halfI d) (max ((i : Int) * s - (k : Int) * s - 2 * halfI d) (-(2 * halfI d))) := by
  unfold gapK
  rw [fitL_get d s N i hi, fitL_get d s N k hk]
  unfold gapB fitCut
  simp only
  omega
theorem fit_apart {s : Int} (hs : 0 ≤ s) {i k : Nat} (h : i < k) : (i : Int) * s + s ≤ (k : Int) * s := by
  obtain ⟨t, rfl⟩ : ∃ t, k = i + 1 + t := ⟨k - i - 1, by omega⟩
  have h1 : ((i + 1 + t : Nat) : Int) * s = (i : Int) * s + s + (t : Int) * s := by
    rw [Int.natCast_add, Int.natCast_add, Int.add_mul, Int.add_mul]; simp
  have h2 : 0 ≤ (t : Int) * s := Int.mul_nonneg (by omega) hs
  omega
theorem fit_far (d s : Int) (hs : 0 ≤ s) (N i k : Nat) (hi : i < N) (hk : k < N) (h : i ≠ k) : s - 2 * halfI d ≤ gapK (fitL d s N) i k := by
  rw [fit_gap d s N i k hi hk]
  rcases Nat.lt_or_gt_of_ne h with h | h
  · have := fit_apart hs h; omega
  · have := fit_apart hs h; omega
theorem fit_next (d s : Int) (hs : 0 ≤ s) (N i : Nat) (hi : i + 1 < N) : gapK (fitL d s N) i (i + 1) = s - 2 * halfI d := by
  rw [fit_gap d s N i (i + 1) (by omega) hi]
  have : ((i + 1 : Nat) : Int) * s = (i : Int) * s + s := by rw [Int.natCast_add, Int.add_mul]; simp
  omega
theorem fit_too (d s a : Int) (N i k : Nat) (hi : i < N) (hk : k < N) : tooB (fitL d s N) a i k = (decide (i ≠ k) && decide (gapK (fitL d s N) i k < leastI d a)) := by
  unfold tooB
  rw [fitL_get d s N i hi, fitL_get d s N k hk]
  show _ = _
  rw [show max (fitCut d s i).size (fitCut d s k).size = d from by show max d d = d; omega]
/-- With just the least gap there are no findings. -/
theorem fit_free (d s a : Int) (hs : 0 ≤ s) (h : leastI d a ≤ s - 2 * halfI d) (N : Nat) : checkI (fitL d s N) a = [] := by
  apply List.eq_nil_of_length_eq_zero
  unfold checkI
  rw [check_len, List.countP_eq_zero]
  intro i hi
  have hi := List.mem_range.1 hi
  rw [fitL_len] at hi
  intro hn
  obtain ⟨k, hk, ht⟩ := nearTo_iff.1 hn
  rw [fitL_len] at hk
  rw [fit_too d s a N i k hi hk] at ht
  simp only [Bool.and_eq_true, decide_eq_true_iff] at ht
  have := fit_far d s hs N i k hi hk ht.1
  omega
/-- And the clear gap is that. -/
theorem fit_clear (d s : Int) (hs : 0 ≤ s) (N : Nat) (hN : 2 ≤ N) : clearI (fitL d s N) = s - 2 * halfI d := by
  obtain ⟨i, k, h1, h2, h3⟩ := clear_pair (fitL d s N) (by rw [fitL_len]; exact hN)
  rw [fitL_len] at h2
  have h4 := fit_far d s hs N i k h2 (by omega) (by omega)
  have h5 := clear_le (fitL d s N) 1 0 (by omega) (by rw [fitL_len]; omega)
  rw [gapK_comm, fit_next d s hs N 0 (by omega)] at h5
  omega
/-- A little closer, every bar has a finding. -/
theorem fit_close (d s a : Int) (hs : 0 ≤ s) (h : s - 2 * halfI d < leastI d a) (N : Nat) (hN : 2 ≤ N) : (checkI (fitL d s N) a).length = N := by
  unfold checkI
  rw [check_len, fitL_len]
  have : List.countP (fun i => nearTo (fitL d s N) a i N) (List.range N) = (List.range N).length := by
    rw [List.countP_eq_length]
    intro i hi
    have hi := List.mem_range.1 hi
    rw [nearTo_iff]
    by_cases h0 : i + 1 < N
    · refine ⟨i + 1, h0, ?_⟩
      rw [fit_too d s a N i (i + 1) hi h0, fit_next d s hs N i h0]
      simp only [Bool.and_eq_true, decide_eq_true_iff]
      exact ⟨by omega, h⟩
    · refine ⟨i - 1, by omega, ?_⟩
      have h1 := fit_next d s hs N (i - 1) (by omega)
      rw [show i - 1 + 1 = i by omega, gapK_comm] at h1
      rw [fit_too d s a N i (i - 1) hi (by omega), h1]
      simp only [Bool.and_eq_true, decide_eq_true_iff]
      exact ⟨by omega, h⟩
  rw [this, List.length_range]

/-- The most bars fit, and one more does not. -/
theorem most_fit (w c d a : Int) (hd : 6 ≤ d) : 0 ≤ mostI w c d a ∧ (0 < mostI w c d a → 2 * c + mostI w c d a * d + (mostI w c d a - 1) * leastI d a ≤ w) ∧ w < 2 * c + (mostI w c d a + 1) * d + mostI w c d a * leastI d a := by
  have hg : 20 ≤ leastI d a := by unfold leastI; omega
  unfold mostI
  generalize leastI d a = g at *
  by_cases h : w - 2 * c < d
  · rw [if_pos h]
    refine ⟨by omega, fun h => by omega, ?_⟩
    rw [Int.zero_add, Int.one_mul, Int.zero_mul]; omega
  · rw [if_neg h]
    have hp : 0 < d + g := by omega
    have h1 := Int.ediv_mul_le (w - 2 * c + g) (b := d + g) (by omega)
    have h2 := Int.lt_ediv_add_one_mul_self (w - 2 * c + g) hp
    have h0 : 0 ≤ (w - 2 * c + g) / (d + g) := Int.ediv_nonneg (by omega) (by omega)
    generalize (w - 2 * c + g) / (d + g) = n at *
    rw [Int.mul_add] at h1
    rw [Int.add_mul, Int.one_mul, Int.mul_add] at h2
    refine ⟨h0, fun _ => ?_, ?_⟩
    · rw [Int.sub_mul, Int.one_mul]; omega
    · rw [Int.add_mul, Int.one_mul]; omega
theorem most_le (w c d a : Int) (hw : w ≤ 1048576) (hc : 0 ≤ c) (hd : 6 ≤ d) : mostI w c d a ≤ 1048576 := by
  obtain ⟨h0, h1, _⟩ := most_fit w c d a hd
  have hg : 20 ≤ leastI d a := by unfold leastI; omega
  generalize mostI w c d a = n at *
  generalize leastI d a = g at *
  rcases Int.lt_or_le 0 n with h | h
  · have h2 := h1 h
    have h3 : 0 ≤ (n - 1) * g := Int.mul_nonneg (by omega) (by omega)
    have h4 : n * 6 ≤ n * d := Int.mul_le_mul_of_nonneg_left hd (by omega)
    omega
  · omega
theorem half_even {d : Int} (h : sizeB d = true) (h2 : d % 2 = 0) : 2 * halfI d = d := by unfold halfI; omega

end Go.Proofs.Ytofjopdcbmaijaa
