/- The cuts of a solid, as the program collects them, are those of the reference. -/
import Derived.Test.YtafkibnkpcmmgaaPlainW
namespace Go.Proofs.Ytafkibnkpcmmgaa

/-- The ends of a box, along an axis, that lie in a span. -/
def within2 (lo hi : Int) (k : Int) (x : Bx) : List Int := (if lo ≤ x.lo k ∧ x.lo k ≤ hi then [x.lo k] else []) ++ (if lo ≤ x.hi k ∧ x.hi k ≤ hi then [x.hi k] else [])
def collL (all : List Bx) (H : Bx) (k : Int) : List Int := all.flatMap (within2 (H.lo k) (H.hi k) k)
theorem mem_within2 {lo hi k : Int} {x : Bx} {n : Int} : n ∈ within2 lo hi k x ↔ (lo ≤ n ∧ n ≤ hi) ∧ (n = x.lo k ∨ n = x.hi k) := by
  unfold within2
  rw [List.mem_append]
  constructor
  · rintro (h | h)
    · split at h
      · rename_i hc; rw [List.mem_singleton.1 h]; exact ⟨hc, .inl rfl⟩
      · simp at h
    · split at h
      · rename_i hc; rw [List.mem_singleton.1 h]; exact ⟨hc, .inr rfl⟩
      · simp at h
  · rintro ⟨hc, rfl | rfl⟩
    · exact .inl (by rw [if_pos hc]; simp)
    · exact .inr (by rw [if_pos hc]; simp)
theorem mem_collL {all : List Bx} {H : Bx} {k n : Int} : n ∈ collL all H k ↔ ∃ x ∈ all, (H.lo k ≤ n ∧ n ≤ H.hi k) ∧ (n = x.lo k ∨ n = x.hi k) := by
  unfold collL
  simp only [List.mem_flatMap, mem_within2]
theorem within2_length (lo hi k : Int) (x : Bx) : (within2 lo hi k x).length ≤ 2 := by
  unfold within2
  rw [List.length_append]
  split <;> split <;> simp
theorem collL_length (all : List Bx) (H : Bx) (k : Int) : (collL all H k).length ≤ 2 * all.length := by
  unfold collL
  induction all with
  | nil => simp
  | cons a l ih => rw [List.flatMap_cons, List.length_append, List.length_cons]; have := within2_length (H.lo k) (H.hi k) k a; omega
theorem collL_take (all : List Bx) (H : Bx) (k : Int) (j : Nat) (h : j < all.length) : collL (all.take (j + 1)) H k = collL (all.take j) H k ++ within2 (H.lo k) (H.hi k) k all[j] := by
  unfold collL; rw [List.take_succ_eq_append_getElem h, List.flatMap_append]; simp

theorem mem_cutsB {all : List Bx} {H : Bx} {k n : Int} : n ∈ cutsB all H k ↔ n = H.lo k ∨ n = H.hi k ∨ ∃ x ∈ all, (H.lo k < n ∧ n < H.hi k) ∧ (n = x.lo k ∨ n = x.hi k) := by
  unfold cutsB; rw [(cutsL_spec _).1, mem_atL]
theorem cutsB_asc (all : List Bx) (H : Bx) (k : Int) : (cutsB all H k).Pairwise (· < ·) := (cutsL_spec _).2

theorem cuts_same {l m : List Bx} (h : l.all thickB = true) (h0 : l ≠ []) (k : Int) : cutsL (collL (l ++ m) (hullX l) k) = cutsB (l ++ m) (hullX l) k := by
  refine asc_ext (cutsL_spec _).2 (cutsB_asc _ _ _) fun n => ?_
  rw [(cutsL_spec _).1, mem_collL, mem_cutsB]
  obtain ⟨⟨b, hb, e⟩, ⟨b', hb', e'⟩⟩ := hull_ends h0 k
  have ht := thick_axis (hull_thick h h0) k
  constructor
  · rintro ⟨x, hx, hc, hn⟩
    by_cases h1 : n = (hullX l).lo k
    · exact .inl h1
    · by_cases h2 : n = (hullX l).hi k
      · exact .inr (.inl h2)
      · exact .inr (.inr ⟨x, hx, by omega, hn⟩)
  · rintro (h1 | h1 | ⟨x, hx, hc, hn⟩)
    · exact ⟨b, List.mem_append_left _ hb, by omega, .inl (by rw [h1, e])⟩
    · exact ⟨b', List.mem_append_left _ hb', by omega, .inr (by rw [h1, e'])⟩
    · exact ⟨x, hx, by omega, hn⟩

theorem head_eq {A : List Int} (hA : A.Pairwise (· < ·)) (h : A ≠ []) {lo : Int} (h1 : lo ∈ A) (h2 : ∀ x ∈ A, lo ≤ x) : A.head h = lo := by
  have := head_le hA h h1
  have := h2 _ (List.head_mem h)
  omega
theorem last_eq {A : List Int} (hA : A.Pairwise (· < ·)) (h : A ≠ []) {hi : Int} (h1 : hi ∈ A) (h2 : ∀ x ∈ A, x ≤ hi) : A.getLast h = hi := by
  have := le_last hA h h1
  have := h2 _ (List.getLast_mem h)
  omega
theorem cutsOf {all : List Bx} {H : Bx} (k : Int) (hH : H.lo k ≤ H.hi k) : CutsOf (cutsB all H k) k (H.lo k) (H.hi k) all := by
  have hlo : H.lo k ∈ cutsB all H k := mem_cutsB.2 (.inl rfl)
  have hhi : H.hi k ∈ cutsB all H k := mem_cutsB.2 (.inr (.inl rfl))
  have hin : ∀ x ∈ cutsB all H k, H.lo k ≤ x ∧ x ≤ H.hi k := fun x hx => by
    rcases mem_cutsB.1 hx with h | h | ⟨_, _, h, _⟩ <;> omega
  have hne : cutsB all H k ≠ [] := List.ne_nil_of_mem hlo
  refine ⟨cutsB_asc _ _ _, hne, head_eq (cutsB_asc _ _ _) hne hlo fun x hx => (hin x hx).1, last_eq (cutsB_asc _ _ _) hne hhi fun x hx => (hin x hx).2, fun p hp a ha => ?_⟩
  have hp := pairs_mem _ (cutsB_asc all H k) p hp
  have h1 := hin _ hp.1
  have h2 := hin _ hp.2.1
  have key : ∀ n, (n = a.lo k ∨ n = a.hi k) → n ≤ p.1 ∨ p.2 ≤ n := fun n hn => by
    by_cases hc : H.lo k < n ∧ n < H.hi k
    · exact hp.2.2.2 n (mem_cutsB.2 (.inr (.inr ⟨a, ha, hc, hn⟩)))
    · omega
  exact ⟨key _ (.inl rfl), key _ (.inr rfl)⟩
theorem parts_pairs {l : List Bx} {b : Bx} {k : Int} (h : b.lo k < b.hi k) : partsL l b k = pairsL (cutsB l b k) := by
  unfold partsL; rw [if_neg (by omega)]; rfl

/-- The parts of a solid. -/
def cellsL (l m : List Bx) : List Bx := cellsOf l m (cutsB (l ++ m) (hullX l) 0) (cutsB (l ++ m) (hullX l) 1) (cutsB (l ++ m) (hullX l) 2)
def volI (l m : List Bx) : Int := sumL volB (cellsL l m)
def sectI (l m : List Bx) (x : Int) : Int := sumL (fun c => if c.lx ≤ x ∧ x < c.hx then areaB c else 0) (cellsL l m)
theorem cutsOf0 (l m : List Bx) (h : l.all thickB = true) (h0 : l ≠ []) : CutsOf (cutsB (l ++ m) (hullX l) 0) 0 (hullX l).lx (hullX l).hx (l ++ m) := cutsOf 0 (Int.le_of_lt (thick_axis (hull_thick h h0) 0))
theorem cutsOf1 (l m : List Bx) (h : l.all thickB = true) (h0 : l ≠ []) : CutsOf (cutsB (l ++ m) (hullX l) 1) 1 (hullX l).ly (hullX l).hy (l ++ m) := cutsOf 1 (Int.le_of_lt (thick_axis (hull_thick h h0) 1))
theorem cutsOf2 (l m : List Bx) (h : l.all thickB = true) (h0 : l ≠ []) : CutsOf (cutsB (l ++ m) (hullX l) 2) 2 (hullX l).lz (hullX l).hz (l ++ m) := cutsOf 2 (Int.le_of_lt (thick_axis (hull_thick h h0) 2))
theorem ord_of {b : Bx} (h : thickB b = true) : b.lx ≤ b.hx ∧ b.ly ≤ b.hy ∧ b.lz ≤ b.hz := by have := (thick_iff.1 h).2; omega
theorem vol_eq {l m : List Bx} (h : l.all thickB = true) (h0 : l ≠ []) : volI l m = sum3 (indU l m) (hullX l) := vol_cells (cutsOf0 l m h h0) (cutsOf1 l m h h0) (cutsOf2 l m h h0)
theorem sect_eq {l m : List Bx} (h : l.all thickB = true) (h0 : l ≠ []) (x : Int) : sectI l m x = secI l m (hullX l) x := by
  unfold sectI cellsL
  rw [sec_cells x (cutsOf0 l m h h0) (cutsOf1 l m h h0) (cutsOf2 l m h h0)]
  split
  · rfl
  · rw [sec_out (fun a ha => hull_has ha) (by omega)]
theorem cells_mem {l m : List Bx} {c : Bx} (hc : c ∈ cellsL l m) : (c.lx < c.hx ∧ c.ly < c.hy ∧ c.lz < c.hz) ∧ selB l m c = true := by
  unfold cellsL cellsOf at hc
  have := List.mem_filter.1 hc
  exact ⟨cell_ord (cutsB_asc _ _ _) (cutsB_asc _ _ _) (cutsB_asc _ _ _) this.1, this.2⟩
theorem cells_hull {l m : List Bx} (h : l.all thickB = true) (h0 : l ≠ []) {c : Bx} (hc : c ∈ cellsL l m) : containsB (hullX l) c = true := by
  unfold cellsL cellsOf at hc
  obtain ⟨p, hp, q, hq, r, hr, rfl⟩ := mem_rowA.1 (List.mem_filter.1 hc).1
  have s0 := (cutsOf0 l m h h0).span hp
  have s1 := (cutsOf1 l m h h0).span hq
  have s2 := (cutsOf2 l m h h0).span hr
  rw [contains_iff]
  simp only [cellX]; omega
theorem cells_valid {l m : List Bx} (h : l.all thickB = true) (h0 : l ≠ []) {c : Bx} (hc : c ∈ cellsL l m) : thickB c = true := by
  have h1 := valid_iff.1 (thick_iff.1 (hull_thick h h0)).1
  have h2 := contains_iff.1 (cells_hull h h0 hc)
  have h3 := (cells_mem hc).1
  rw [thick_iff, valid_iff]; omega
theorem cells_pair (l m : List Bx) : (cellsL l m).Pairwise (fun c d => 0 ≤ gapI d c) := (cells_apart (cutsB_asc _ _ _) (cutsB_asc _ _ _) (cutsB_asc _ _ _)).filter _
theorem vol_nonneg {c : Bx} (h : c.lx ≤ c.hx ∧ c.ly ≤ c.hy ∧ c.lz ≤ c.hz) : 0 ≤ volB c := Int.mul_nonneg (Int.mul_nonneg (by omega) (by omega)) (by omega)
theorem area_nonneg {c : Bx} (h : c.lx ≤ c.hx ∧ c.ly ≤ c.hy ∧ c.lz ≤ c.hz) : 0 ≤ areaB c := Int.mul_nonneg (by omega) (by omega)
theorem volI_nonneg (l m : List Bx) : 0 ≤ volI l m := sumL_nonneg fun c hc => vol_nonneg (by have := (cells_mem hc).1; omega)
theorem volB_le {b : Bx} {n : Int} (h : b.lx ≤ b.hx ∧ b.ly ≤ b.hy ∧ b.lz ≤ b.hz) (h0 : 0 ≤ n) (hx : b.hx - b.lx ≤ n) (hy : b.hy - b.ly ≤ n) (hz : b.hz - b.lz ≤ n) : volB b ≤ n * n * n :=
  Int.mul_le_mul (Int.mul_le_mul hx hy (by omega) h0) hz (by omega) (Int.mul_nonneg h0 h0)
/-- The volume is at most 2^63. -/
theorem volI_le {l m : List Bx} (h : l.all thickB = true) (h0 : l ≠ []) : volI l m ≤ 9223372036854775808 := by
  rw [vol_eq h h0]
  have ht := hull_thick h h0
  have h1 := valid_iff.1 (thick_iff.1 ht).1
  refine Int.le_trans (vol_le (ord_of ht)) (Int.le_trans (volB_le (n := 2097152) (ord_of ht) (by omega) (by omega) (by omega) (by omega)) (by decide))
end Go.Proofs.Ytafkibnkpcmmgaa
