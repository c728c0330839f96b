/- The plain laws of volumes: slices, holes, further boxes, solids that are moved. -/
import Derived.Test.YtafkibnkpcmmgaaPlainC
namespace Go.Proofs.Ytafkibnkpcmmgaa

theorem inU_clear {a : Bx} {p : Int × Int} {x y z : Int} (h : clearOf p 0 a) (hx : p.1 ≤ x ∧ x < p.2) : inU a x y z = inU a p.1 y z := by
  apply bool_ext
  rw [inU_iff, inU_iff]
  obtain ⟨h0, h1⟩ := h
  change a.lx ≤ p.1 ∨ p.2 ≤ a.lx at h0
  change a.hx ≤ p.1 ∨ p.2 ≤ a.hx at h1
  omega
theorem sec_clear {l m : List Bx} {H : Bx} {p : Int × Int} {x : Int} (h : ∀ a ∈ l ++ m, clearOf p 0 a) (hx : p.1 ≤ x ∧ x < p.2) : secI l m H x = secI l m H p.1 := by
  unfold secI indU solU
  refine sumI_congr fun y _ _ => sumI_congr fun z _ _ => ?_
  rw [any_congr' (l := l) fun a ha => inU_clear (h a (List.mem_append_left _ ha)) hx, any_congr' (l := m) fun a ha => inU_clear (h a (List.mem_append_right _ ha)) hx]

/-- All X at which the sides of boxes and holes lie. -/
def atX (l m : List Bx) : List Int := cutsL (endsL (l ++ m) 0)
theorem mem_atX {l m : List Bx} {n : Int} : n ∈ atX l m ↔ ∃ a ∈ l ++ m, n = a.lx ∨ n = a.hx := by
  unfold atX; rw [(cutsL_spec _).1, mem_endsL]; rfl
theorem atX_asc (l m : List Bx) : (atX l m).Pairwise (· < ·) := (cutsL_spec _).2
theorem atX_clear {l m : List Bx} {p : Int × Int} (hp : p ∈ pairsL (atX l m)) : ∀ a ∈ l ++ m, clearOf p 0 a := by
  intro a ha
  have := (pairs_mem _ (atX_asc l m) p hp).2.2.2
  exact ⟨this _ (mem_atX.2 ⟨a, ha, .inl rfl⟩), this _ (mem_atX.2 ⟨a, ha, .inr rfl⟩)⟩
theorem slices_same {l m : List Bx} (h : l.all thickB = true) (h0 : l ≠ []) {p : Int × Int} (hp : p ∈ pairsL (atX l m)) : sectI l m (p.2 - 1) = sectI l m p.1 := by
  have hm := (pairs_mem _ (atX_asc l m) p hp).2.2.1
  rw [sect_eq h h0, sect_eq h h0, sec_clear (atX_clear hp) ⟨by omega, by omega⟩]
theorem slices_nonneg {l m : List Bx} (h : l.all thickB = true) (h0 : l ≠ []) (x : Int) : 0 ≤ sectI l m x := by rw [sect_eq h h0]; exact sec_nonneg x
theorem slices_out {l m : List Bx} (h : l.all thickB = true) (h0 : l ≠ []) (x : Int) (hx : x < (hullX l).lx ∨ (hullX l).hx ≤ x) : sectI l m x = 0 := by
  rw [sect_eq h h0, sec_out (fun a ha => hull_has ha) hx]
theorem slices_sum {l m : List Bx} (h : l.all thickB = true) (h0 : l ≠ []) : sumL (fun p => sectI l m p.1 * (p.2 - p.1)) (pairsL (atX l m)) = volI l m := by
  have hne : atX l m ≠ [] := by
    obtain ⟨a, ha⟩ := List.exists_mem_of_ne_nil l h0
    exact List.ne_nil_of_mem (mem_atX.2 ⟨a, List.mem_append_left _ ha, .inl rfl⟩)
  have e : ∀ p ∈ pairsL (atX l m), sectI l m p.1 * (p.2 - p.1) = sumI (secI l m (hullX l)) p.1 p.2 := fun p hp => by
    have hm := (pairs_mem _ (atX_asc l m) p hp).2.2.1
    rw [sumI_congr fun x a b => sec_clear (l := l) (m := m) (atX_clear hp) ⟨a, b⟩, sumI_const _ (by omega), sect_eq h h0]
  rw [sumL_congr e, pairs_sum _ _ hne (atX_asc l m), vol_eq h h0]
  obtain ⟨⟨b, hb, e1⟩, ⟨b', hb', e2⟩⟩ := hull_ends h0 0
  change (hullX l).lx = b.lx at e1
  change (hullX l).hx = b'.hx at e2
  have k1 := head_le (atX_asc l m) hne (mem_atX.2 ⟨b, List.mem_append_left _ hb, .inl rfl⟩)
  have k2 := le_last (atX_asc l m) hne (mem_atX.2 ⟨b', List.mem_append_left _ hb', .inr rfl⟩)
  exact sumI_grow (by omega) (ord_of (hull_thick h h0)).1 (by omega) fun x _ _ hx => sec_out (fun a ha => hull_has ha) hx

def bigX : Bx := ⟨-1048576, -1048576, -1048576, 1048576, 1048576, 1048576⟩
theorem big_has {b : Bx} (h : validB b = true) : containsB bigX b = true := by
  have := valid_iff.1 h
  rw [contains_iff]; simp only [bigX]; omega
theorem vol_big {l m : List Bx} (h : l.all thickB = true) (h0 : l ≠ []) : volI l m = sum3 (indU l m) bigX := by
  have ht := hull_thick h h0
  rw [vol_eq h h0, vol_wide (fun a ha => hull_has ha) (big_has (thick_iff.1 ht).1) (ord_of ht)]
theorem own_big {b : Bx} (h : thickB b = true) : sum3 (fun x y z => b01 (inU b x y z)) bigX = volB b := sum3_own (big_has (thick_iff.1 h).1) (ord_of h)

theorem vol_hole {l m : List Bx} {b : Bx} (h : l.all thickB = true) (h0 : l ≠ []) (hb : thickB b = true) : volI l (m ++ [b]) ≤ volI l m ∧ volI l m - volB b ≤ volI l (m ++ [b]) := by
  rw [vol_big h h0, vol_big h h0, ← own_big hb]
  refine ⟨sum3_le fun x y z => (hole_bounds b x y z).1, ?_⟩
  have : sum3 (indU l m) bigX ≤ sum3 (indU l (m ++ [b])) bigX + sum3 (fun x y z => b01 (inU b x y z)) bigX := by
    rw [← sum3_plus]
    exact sum3_le fun x y z => (hole_bounds b x y z).2
  omega
theorem all_snoc {l : List Bx} {b : Bx} (h : l.all thickB = true) (hb : thickB b = true) : (l ++ [b]).all thickB = true := by
  rw [List.all_append, h]; simp [hb]
theorem vol_more {l m : List Bx} {b : Bx} (h : l.all thickB = true) (h0 : l ≠ []) (hb : thickB b = true) : volI l m ≤ volI (l ++ [b]) m ∧ volI (l ++ [b]) m ≤ volI l m + volB b := by
  rw [vol_big h h0, vol_big (all_snoc h hb) (by simp), ← own_big hb]
  refine ⟨sum3_le fun x y z => (box_bounds b x y z).1, ?_⟩
  rw [← sum3_plus]
  exact sum3_le fun x y z => (box_bounds b x y z).2
theorem vol_beside {l m : List Bx} {b : Bx} (h : l.all thickB = true) (h0 : l ≠ []) (hg : 0 ≤ gapI (hullX l) b) : volI l (m ++ [b]) = volI l m := by
  rw [vol_eq h h0, vol_eq h h0]
  exact sum3_congr fun x y z => hole_beside (fun a ha => hull_has ha) hg x y z

theorem moved_join (dx dy dz : Int) (a b : Bx) : joinX (movedX dx dy dz a) (movedX dx dy dz b) = movedX dx dy dz (joinX a b) := by
  simp only [joinX, movedX, Bx.mk.injEq]; omega
theorem moved_fold (dx dy dz : Int) (l : List Bx) (a : Bx) : (l.map (movedX dx dy dz)).foldl joinX (movedX dx dy dz a) = movedX dx dy dz (l.foldl joinX a) := by
  induction l generalizing a with
  | nil => rfl
  | cons b l ih => rw [List.map_cons, List.foldl_cons, moved_join, ih, List.foldl_cons]
theorem moved_hull (dx dy dz : Int) {l : List Bx} (h0 : l ≠ []) : hullX (l.map (movedX dx dy dz)) = movedX dx dy dz (hullX l) := by
  cases l with
  | nil => exact absurd rfl h0
  | cons a r => exact moved_fold dx dy dz (a :: r) a
theorem volI_moved (dx dy dz : Int) {l m : List Bx} (h : l.all thickB = true) (h0 : l ≠ []) (h' : (l.map (movedX dx dy dz)).all thickB = true) : volI (l.map (movedX dx dy dz)) (m.map (movedX dx dy dz)) = volI l m := by
  rw [vol_eq h' (by simpa using h0), vol_eq h h0, moved_hull dx dy dz h0, vol_moved]

/-- Coordinates from -2^16 to 2^16. -/
def modestB (b : Bx) : Bool := decide (-65536 ≤ min b.lx (min b.ly b.lz) ∧ max b.hx (max b.hy b.hz) ≤ 65536)
theorem modest_iff {b : Bx} : modestB b = true ↔ (-65536 ≤ b.lx ∧ -65536 ≤ b.ly ∧ -65536 ≤ b.lz) ∧ b.hx ≤ 65536 ∧ b.hy ≤ 65536 ∧ b.hz ≤ 65536 := by
  unfold modestB; rw [decide_eq_true_iff]; omega
theorem modest_vol {l m : List Bx} (h : l.all thickB = true) (h0 : l ≠ []) (hm : l.all modestB = true) : volI l m ≤ 2251799813685248 := by
  rw [vol_eq h h0]
  have ht := hull_thick h h0
  have key : ∀ k, -65536 ≤ (hullX l).lo k ∧ (hullX l).hi k ≤ 65536 := fun k => by
    obtain ⟨⟨b, hb, e⟩, ⟨b', hb', e'⟩⟩ := hull_ends h0 k
    rw [e, e']
    have h1 := modest_iff.1 (List.all_eq_true.1 hm b hb)
    have h2 := modest_iff.1 (List.all_eq_true.1 hm b' hb')
    unfold Bx.lo Bx.hi
    split
    · omega
    · split <;> omega
  have k0 := key 0
  have k1 := key 1
  have k2 := key 2
  change -65536 ≤ (hullX l).lx ∧ (hullX l).hx ≤ 65536 at k0
  change -65536 ≤ (hullX l).ly ∧ (hullX l).hy ≤ 65536 at k1
  change -65536 ≤ (hullX l).lz ∧ (hullX l).hz ≤ 65536 at k2
  exact Int.le_trans (vol_le (ord_of ht)) (Int.le_trans (volB_le (n := 131072) (ord_of ht) (by omega) (by omega) (by omega) (by omega)) (by decide))
end Go.Proofs.Ytafkibnkpcmmgaa
