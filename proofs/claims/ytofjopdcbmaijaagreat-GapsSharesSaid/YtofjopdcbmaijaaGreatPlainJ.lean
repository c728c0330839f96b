/- Plain law of GapsShares: the cuts of runs in two parts; bars of one size. -/
import Derived.Test.YtofjopdcbmaijaaGreatGapH
namespace Go.Proofs.YtofjopdcbmaijaaGreat

theorem placeR_left {A B : List Rn} {i : Int} (h0 : 0 ≤ i) (h : i < countS A) : placeR (A ++ B) i = placeR A i := by
  induction A generalizing i with
  | nil => simp only [countS] at h; omega
  | cons r A ih =>
    simp only [countS] at h
    simp only [List.cons_append, placeR]
    split
    · rfl
    · exact ih (by omega) (by omega)
theorem countS_nn {A : List Rn} (h : ∀ r ∈ A, 0 ≤ r.count) : 0 ≤ countS A := by
  induction A with
  | nil => exact Int.le_refl _
  | cons r A ih =>
    have := ih fun x hx => h x (List.mem_cons_of_mem _ hx)
    have := h r List.mem_cons_self
    simp only [countS]; omega
theorem placeR_right {A B : List Rn} {i : Int} (hc : ∀ r ∈ A, 0 ≤ r.count) (h : countS A ≤ i) : placeR (A ++ B) i = placeR B (i - countS A) := by
  induction A generalizing i with
  | nil => simp [countS]
  | cons r A ih =>
    simp only [countS] at h ⊢
    have h0 : 0 ≤ countS A := countS_nn fun x hx => hc x (List.mem_cons_of_mem _ hx)
    have hr := hc r List.mem_cons_self
    simp only [List.cons_append, placeR]
    rw [if_neg (by omega), ih (fun x hx => hc x (List.mem_cons_of_mem _ hx)) (by omega)]
    congr 1; omega
theorem cutsAt_congr {l : List Br} {rs rs' : List Rn} {x : Int} {i j : Nat} (h : placeR rs i = placeR rs' j) : cutsAt l rs x i = cutsAt l rs' x j := by
  have hm : markI rs i = markI rs' j := by unfold markI; rw [h]
  have hl : legsI l rs i = legsI l rs' j := by unfold legsI pathI; rw [h]
  unfold cutsAt sizeI
  rw [hm, hl]
theorem cutsTo_left {l : List Br} {A B : List Rn} {x : Int} (n : Nat) (h : (n : Int) ≤ countS A) : cutsTo l (A ++ B) x n = cutsTo l A x n := by
  induction n with
  | zero => rfl
  | succ n ih => rw [cutsTo_succ, cutsTo_succ, ih (by omega), cutsAt_congr (placeR_left (by omega) (by omega))]
theorem cutsTo_right {l : List Br} {A B : List Rn} {x : Int} (hc : ∀ r ∈ A, 0 ≤ r.count) (n : Nat) (hn : (n : Int) = countS A) (k : Nat) : cutsTo l (A ++ B) x (n + k) = cutsTo l A x n ++ cutsTo l B x k := by
  induction k with
  | zero => rw [Nat.add_zero, cutsTo_left n (by omega)]; simp [cutsTo]
  | succ k ih =>
    rw [← Nat.add_assoc, cutsTo_succ, ih, cutsTo_succ, List.append_assoc]
    congr 2
    apply cutsAt_congr
    rw [placeR_right hc (by omega)]
    congr 1; omega
theorem cutsI_append {l : List Br} {A B : List Rn} {x : Int} (hA : ∀ r ∈ A, 0 ≤ r.count) (hB : ∀ r ∈ B, 0 ≤ r.count) : cutsI l (A ++ B) x = cutsI l A x ++ cutsI l B x := by
  have h1 := countS_nn hA
  have h2 := countS_nn hB
  unfold cutsI
  rw [countS_append, show (countS A + countS B).toNat = (countS A).toNat + (countS B).toNat by omega]
  exact cutsTo_right hA _ (by omega) _
theorem steel_from (L : List Ct) (a : Int) : L.foldl (fun s c => s + areaI c.size) a = a + steelI L := by
  unfold steelI
  induction L generalizing a with
  | nil => simp
  | cons c L ih =>
    simp only [List.foldl_cons]
    rw [ih, ih (0 + areaI c.size)]
    omega
theorem steel_append (L M : List Ct) : steelI (L ++ M) = steelI L + steelI M := by
  conv => lhs; unfold steelI
  rw [List.foldl_append, steel_from]; rfl
theorem steel_same {L : List Ct} {d : Int} (h : ∀ c ∈ L, c.size = d) : steelI L = (L.length : Int) * areaI d := by
  induction L with
  | nil => simp [steelI]
  | cons c L ih =>
    have h1 : steelI (c :: L) = areaI c.size + steelI L := by
      show steelI ([c] ++ L) = _
      rw [steel_append]; simp [steelI]
    rw [h1, ih fun x hx => h x (List.mem_cons_of_mem _ hx), h c List.mem_cons_self, List.length_cons]
    rw [show ((L.length + 1 : Nat) : Int) = (L.length : Int) + 1 by omega, Int.add_mul, Int.one_mul, Int.add_comm]
theorem one_size {b : Br} {rs : List Rn} {x : Int} (hv : laidB [b] rs = true) : ∀ c ∈ cutsI [b] rs x, c.size = b.size := by
  intro c hc
  unfold cutsI cutsTo at hc
  obtain ⟨i, hi, hci⟩ := List.mem_flatMap.1 hc
  have hi := List.mem_range.1 hi
  unfold cutsAt at hci
  obtain ⟨leg, _, hcb⟩ := List.mem_filterMap.1 hci
  unfold cutOf at hcb
  have h0 := (count_le hv rs.length).1
  rw [List.take_length] at h0
  have hf := (mark_of hv (i := (i : Int)) (by omega) (by omega)).2.1
  split at hcb
  · cases hcb
    show sizeI [b] rs i = b.size
    unfold sizeI barOf
    rcases findI_cases [b] (markI rs i) with ⟨e, _⟩ | ⟨k, hk, e, _, _⟩
    · omega
    · have : k = 0 := by simp at hk; omega
      subst this
      rw [e]; rfl
  · cases hcb
theorem laid_take {l : List Br} {rs : List Rn} (k : Nat) (h : laidB l rs = true) : laidB l (rs.take k) = true ∧ laidB l (rs.drop k) = true := by
  obtain ⟨h1, h2, h3, h4⟩ := laidB_iff.1 h
  have c1 := count_le h k
  have c2 : 0 ≤ countS (rs.drop k) := countS_nonneg (fun r hr => h3 r (List.mem_of_mem_drop hr))
  have c3 := countS_append (rs.take k) (rs.drop k)
  rw [List.take_append_drop] at c3
  refine ⟨laidB_iff.2 ⟨h1, ?_, fun r hr => h3 r (List.mem_of_mem_take hr), by omega⟩, laidB_iff.2 ⟨h1, ?_, fun r hr => h3 r (List.mem_of_mem_drop hr), by omega⟩⟩
  · rw [List.length_take]; omega
  · rw [List.length_drop]; omega
theorem steel_parts {l : List Br} {rs : List Rn} {x : Int} (k : Nat) (h : laidB l rs = true) : steelI (cutsI l rs x) = steelI (cutsI l (rs.take k) x) + steelI (cutsI l (rs.drop k) x) := by
  have h3 := (laidB_iff.1 h).2.2.1
  have hc : ∀ r ∈ rs, 0 ≤ r.count := fun r hr => by have := runB_count (h3 r hr); omega
  rw [← steel_append, ← cutsI_append (fun r hr => hc r (List.mem_of_mem_take hr)) (fun r hr => hc r (List.mem_of_mem_drop hr)), List.take_append_drop]

end Go.Proofs.YtofjopdcbmaijaaGreat
