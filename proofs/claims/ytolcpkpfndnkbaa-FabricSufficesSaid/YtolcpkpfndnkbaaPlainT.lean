/- Sheets that suffice are at least as many as those over the slab, and those suffice. -/
import Derived.Test.YtolcpkpfndnkbaaFabH
import Derived.Test.YtolcpkpfndnkbaaPlainR
import Derived.Test.YtolcpkpfndnkbaaPlainS
namespace Go.Proofs.Ytolcpkpfndnkbaa
open Go.RowKit

theorem trim_reach {f : Fb} {L W lap : Int} (hl : 0 ≤ lap) {b : Bx} (hs : sheetB f b = true) :
    (((trimX L W lap b).hx - (trimX L W lap b).lx ≤ f.length - lap ∧ (trimX L W lap b).hx < L) ∨ L - f.length ≤ (trimX L W lap b).lx) ∧
    (((trimX L W lap b).hy - (trimX L W lap b).ly ≤ f.width - lap ∧ (trimX L W lap b).hy < W) ∨ W - f.width ≤ (trimX L W lap b).ly) := by
  obtain ⟨_, _, _, h1, h2⟩ := sheetB_iff.1 hs
  simp only [trimX, cutI]
  constructor
  · by_cases h : b.hx < L
    · rw [if_pos h]; omega
    · rw [if_neg h]; omega
  · by_cases h : b.hy < W
    · rw [if_pos h]; omega
    · rw [if_neg h]; omega

theorem num_steps {t s l : Int} (h : rangeB t s l = true) (h2 : 2 ≤ (numI t s l).toNat) : (((numI t s l).toNat : Int) - 2) * (s - l) + 1 ≤ t - s := by
  have b := (num_bound h).1
  rw [Int.toNat_of_nonneg (by omega)]
  have := num_before (k := numI t s l - 2) h (by omega) (Int.le_refl _)
  omega

theorem suff_count {f : Fb} {L W lap : Int} {l : List Bx} (h : givenI f L W lap = 0) (hs : ∀ b ∈ l, sheetB f b = true) (hc : coversB (restL L W lap l) (slabX L W) = true) :
    numI L f.length lap * numI W f.width lap ≤ (l.length : Int) := by
  obtain ⟨_, r1, r2⟩ := given_zero h
  obtain ⟨q1, q2, q3⟩ := range_iff.1 r1
  obtain ⟨q4, q5, q6⟩ := range_iff.1 r2
  have b1 := (num_bound r1).1
  have b2 := (num_bound r2).1
  have key := count_cover (r := restL L W lap l) (L := L) (W := W) (S := f.length) (T := f.width) (d := f.length - lap) (e := f.width - lap) (n := (numI L f.length lap).toNat) (m := (numI W f.width lap).toNat)
    (by omega) (by omega) (by omega) (by omega) (by omega) (by omega) (num_steps r1) (num_steps r2) (by
      intro a ha
      unfold restL at ha
      obtain ⟨b, hb, rfl⟩ := List.mem_map.1 (List.mem_filter.1 ha).1
      exact trim_reach q3.1 (hs b hb)) hc
  have hl := rest_len L W lap l
  have e : (((numI L f.length lap).toNat * (numI W f.width lap).toNat : Nat) : Int) = numI L f.length lap * numI W f.width lap := by
    rw [Int.natCast_mul, Int.toNat_of_nonneg (by omega), Int.toNat_of_nonneg (by omega)]
  omega

theorem row_mem {t s l : Int} (h : rangeB t s l = true) {x : Int × Int} (hx : x ∈ rowL t s l) : 0 ≤ x.1 ∧ x.1 < x.2 ∧ x.2 ≤ t ∧ x.2 - x.1 ≤ s := by
  obtain ⟨i, hi, rfl⟩ := List.getElem_of_mem hx
  have h1 := row_in h i hi
  obtain ⟨q1, q2, q3⟩ := range_iff.1 h
  refine ⟨?_, h1.1, ?_, h1.2⟩
  · rw [rowL_get h]; exact Int.mul_nonneg (by omega) (by omega)
  · rw [rowL_get h]; dsimp only; omega

/-- Each point of the total lies in one of the row's sheets, without the lap. -/
theorem row_find {t s l : Int} (h : rangeB t s l = true) (P : Int) (h0 : 0 ≤ P) (h1 : P ≤ 2 * t) : ∃ x ∈ rowL t s l, 2 * x.1 ≤ P ∧ P ≤ 2 * cutI x.2 t l := by
  obtain ⟨q1, q2, q3⟩ := range_iff.1 h
  have hlen := rowL_length' h
  have b1 := (num_bound h).1
  have hd : 0 < 2 * (s - l) := by omega
  have d1 : P / (2 * (s - l)) * (2 * (s - l)) ≤ P := Int.ediv_mul_le _ (by omega)
  have d2 : P < (P / (2 * (s - l)) + 1) * (2 * (s - l)) := Int.lt_ediv_add_one_mul_self _ hd
  have d3 : 0 ≤ P / (2 * (s - l)) := Int.ediv_nonneg h0 (by omega)
  generalize P / (2 * (s - l)) = q at *
  have e1 : q * (2 * (s - l)) = 2 * (q * (s - l)) := Int.mul_left_comm _ _ _
  have e2 : (q + 1) * (2 * (s - l)) = 2 * (q * (s - l)) + 2 * (s - l) := by rw [Int.add_mul, Int.one_mul, e1]
  by_cases hq : q ≤ numI t s l - 2
  · have hi : q.toNat < (rowL t s l).length := by omega
    refine ⟨(rowL t s l)[q.toNat], List.getElem_mem hi, ?_⟩
    rw [rowL_get h]
    dsimp only
    rw [Int.toNat_of_nonneg d3]
    have := num_before h d3 hq
    unfold cutI
    rw [if_pos (by omega)]
    omega
  · have hi : (rowL t s l).length - 1 < (rowL t s l).length := by omega
    refine ⟨(rowL t s l)[(rowL t s l).length - 1], List.getElem_mem hi, ?_⟩
    have he := row_end h ((rowL t s l).length - 1) hi (by omega)
    rw [he]
    have e3 : ((((rowL t s l).length - 1 : Nat)) : Int) ≤ q := by omega
    have e4 := Int.mul_le_mul_of_nonneg_right e3 (show 0 ≤ s - l by omega)
    have e5 : (rowL t s l)[(rowL t s l).length - 1].1 = (((rowL t s l).length - 1 : Nat) : Int) * (s - l) := by rw [rowL_get h]
    rw [e5]
    unfold cutI
    rw [if_neg (by omega)]
    omega

theorem mem_gridX {P0 P1 : List (Int × Int)} {b : Bx} : b ∈ gridX P0 P1 ↔ ∃ x ∈ P0, ∃ y ∈ P1, sheetX x y = b := by
  unfold gridX lineX
  simp only [List.mem_flatMap, List.mem_map]

theorem grid_sheets {f : Fb} {L W lap : Int} (h : givenI f L W lap = 0) : ∀ b ∈ gridX (rowL L f.length lap) (rowL W f.width lap), sheetB f b = true := by
  obtain ⟨_, r1, r2⟩ := given_zero h
  obtain ⟨q1, q2, q3⟩ := range_iff.1 r1
  obtain ⟨q4, q5, q6⟩ := range_iff.1 r2
  intro b hb
  obtain ⟨x, hx, y, hy, rfl⟩ := mem_gridX.1 hb
  have hx := row_mem r1 hx
  have hy := row_mem r2 hy
  rw [sheetB_iff, valid_iff]
  simp only [sheetX, true_and]
  omega

theorem grid_covers {f : Fb} {L W lap : Int} (h : givenI f L W lap = 0) : coversB (restL L W lap (gridX (rowL L f.length lap) (rowL W f.width lap))) (slabX L W) = true := by
  obtain ⟨_, r1, r2⟩ := given_zero h
  obtain ⟨q1, q2, q3⟩ := range_iff.1 r1
  obtain ⟨q4, q5, q6⟩ := range_iff.1 r2
  rw [covers_iff (by simp only [slabX]; omega) (by simp only [slabX]; omega) (Int.le_refl _)]
  intro P Q R ⟨hP, hQ, hR⟩
  simp only [slabX] at hP hQ hR
  obtain ⟨x, hx, x1, x2⟩ := row_find r1 P (by omega) (by omega)
  obtain ⟨y, hy, y1, y2⟩ := row_find r2 Q (by omega) (by omega)
  refine ⟨trimX L W lap (sheetX x y), ?_, ?_⟩
  · unfold restL
    refine List.mem_filter.2 ⟨List.mem_map.2 ⟨_, mem_gridX.2 ⟨x, hx, y, hy, rfl⟩, rfl⟩, ?_⟩
    unfold leftB
    rw [Bool.and_eq_true, decide_eq_true_iff, decide_eq_true_iff]
    simp only [trimX, sheetX]
    omega
  · simp only [inB, trimX, sheetX]
    omega

theorem grid_length {f : Fb} {L W lap : Int} (h : givenI f L W lap = 0) : ((gridX (rowL L f.length lap) (rowL W f.width lap)).length : Int) = numI L f.length lap * numI W f.width lap := by
  obtain ⟨_, r1, r2⟩ := given_zero h
  have e : (gridX (rowL L f.length lap) (rowL W f.width lap)).length = (rowL L f.length lap).length * (rowL W f.width lap).length := by
    unfold gridX
    generalize rowL L f.length lap = P0
    induction P0 with
    | nil => simp
    | cons x P0 ih =>
      rw [List.flatMap_cons, List.length_append, ih, List.length_cons, Nat.add_mul, Nat.one_mul, Nat.add_comm]
      unfold lineX
      rw [List.length_map]
  rw [e, Int.natCast_mul, rowL_length' r1, rowL_length' r2]

/-- Check on the cover holds; on fewer sheets than the cover's it fails. -/
theorem check_grid {f : Fb} {L W lap : Int} (h : givenI f L W lap = 0) (hn : numI L f.length lap * numI W f.width lap ≤ 12) : checkR f L W lap (gridX (rowL L f.length lap) (rowL W f.width lap)) = (true, 0) := by
  have hl := grid_length h
  unfold checkR
  rw [if_pos h, if_neg (by omega), if_neg, grid_covers h]
  intro hc
  obtain ⟨b, hb, hb2⟩ := List.any_eq_true.1 hc
  rw [grid_sheets h b hb] at hb2
  cases hb2
theorem check_few {f : Fb} {L W lap : Int} (h : givenI f L W lap = 0) {l : List Bx} (hl : l.length ≤ 12) : (checkR f L W lap l).2 = 0 ∧ ((checkR f L W lap l).1 = true → numI L f.length lap * numI W f.width lap ≤ (l.length : Int)) := by
  unfold checkR
  rw [if_pos h, if_neg (by omega)]
  by_cases ha : l.any (fun b => !sheetB f b) = true
  · rw [if_pos ha]; simp
  · rw [if_neg ha]
    refine ⟨rfl, fun hc => suff_count h (any_take_none (by simpa using ha)) hc⟩

end Go.Proofs.Ytolcpkpfndnkbaa
