/- Boxes cover a box, cell by cell, exactly if each point of it, half numbers too, lies in one of them. -/
import Derived.Test.YtmoechhfjmemaaaGreatBoxK2
namespace Go.Proofs.YtmoechhfjmemaaaGreat
open Go.RowKit
set_option maxRecDepth 20000

theorem sorted_pairwise (zs : List Int) : (sorted zs).Pairwise (· ≤ ·) := by
  unfold sorted
  have := List.pairwise_mergeSort (le := fun x y : Int => decide (x ≤ y)) (by intro a b c; simp; omega) (by intro a b; simp; omega) zs
  simpa using this
theorem mem_sorted {zs : List Int} {x : Int} : x ∈ sorted zs ↔ x ∈ zs := List.mem_mergeSort

theorem compactUpTo_spec (d : Array Int) (hs : ∀ i j, i ≤ j → j < d.size → d[i]! ≤ d[j]!) (m : Nat) (hm : m ≤ d.size) :
    (∀ x, x ∈ Lib.compactUpTo d m ↔ ∃ j, j < m ∧ d[j]! = x) ∧ (Lib.compactUpTo d m).Pairwise (· < ·) := by
  induction m with
  | zero => simp [Lib.compactUpTo]
  | succ m ih =>
    obtain ⟨h1, h2⟩ := ih (by omega)
    rw [Lib.compactUpTo_succ]
    by_cases h0 : m = 0
    · subst h0
      have hk : Lib.keeps d 0 = true := Lib.keeps_lt_one d 0 (by omega)
      rw [if_pos hk]
      refine ⟨fun x => ?_, by simp [Lib.compactUpTo]⟩
      simp only [Lib.compactUpTo, List.range_zero, List.filter_nil, List.map_nil, List.nil_append, List.mem_singleton]
      exact ⟨fun h => ⟨0, by omega, h.symm⟩, fun ⟨j, hj, h⟩ => by rw [← h, show j = 0 by omega]⟩
    · by_cases he : d[m]! = d[m - 1]!
      · rw [if_neg (by rw [Lib.keeps_neg (by omega) he]; simp), List.append_nil]
        refine ⟨fun x => ?_, h2⟩
        rw [h1]
        constructor
        · rintro ⟨j, hj, h⟩; exact ⟨j, by omega, h⟩
        · rintro ⟨j, hj, h⟩
          by_cases hjm : j = m
          · exact ⟨m - 1, by omega, by rw [← he, ← hjm]; exact h⟩
          · exact ⟨j, by omega, h⟩
      · rw [if_pos (Lib.keeps_pos he)]
        refine ⟨fun x => ?_, ?_⟩
        · rw [List.mem_append, h1, List.mem_singleton]
          constructor
          · rintro (⟨j, hj, h⟩ | h)
            · exact ⟨j, by omega, h⟩
            · exact ⟨m, by omega, h.symm⟩
          · rintro ⟨j, hj, h⟩
            by_cases hjm : j = m
            · exact .inr (by rw [← h, hjm])
            · exact .inl ⟨j, by omega, h⟩
        · rw [List.pairwise_append]
          refine ⟨h2, by simp, fun x hx y hy => ?_⟩
          obtain ⟨j, hj, rfl⟩ := (h1 x).1 hx
          rw [List.mem_singleton.1 hy]
          have e1 := hs j (m - 1) (by omega) (by omega)
          have e2 := hs (m - 1) m (by omega) (by omega)
          omega

/-- The cuts, ascending, each once. -/
def cutsL (zs : List Int) : List Int := Lib.compact (sorted zs)
theorem cutsL_spec (zs : List Int) : (∀ x, x ∈ cutsL zs ↔ x ∈ zs) ∧ (cutsL zs).Pairwise (· < ·) := by
  unfold cutsL Lib.compact
  have hp := sorted_pairwise zs
  have hs : ∀ i j, i ≤ j → j < (sorted zs).toArray.size → (sorted zs).toArray[i]! ≤ (sorted zs).toArray[j]! := by
    intro i j hij hj
    have hj' : j < (sorted zs).length := by simpa using hj
    rw [getElem!_pos _ i (by simp; omega), getElem!_pos _ j hj]
    simp only [List.getElem_toArray]
    rcases Nat.lt_or_eq_of_le hij with h | h
    · exact List.pairwise_iff_getElem.1 hp i j (by omega) hj' h
    · subst h; omega
  obtain ⟨h1, h2⟩ := compactUpTo_spec (sorted zs).toArray hs (sorted zs).length (by simp)
  refine ⟨fun x => ?_, h2⟩
  rw [h1, ← mem_sorted (zs := zs)]
  constructor
  · rintro ⟨j, hj, rfl⟩
    rw [getElem!_pos _ j (by simpa using hj)]
    simp
  · intro hx
    obtain ⟨j, hj, rfl⟩ := List.getElem_of_mem hx
    exact ⟨j, hj, by rw [getElem!_pos _ j (by simpa using hj)]; simp⟩

theorem pairs_mem (A : List Int) (hA : A.Pairwise (· < ·)) (p : Int × Int) (hp : p ∈ pairsL A) : p.1 ∈ A ∧ p.2 ∈ A ∧ p.1 < p.2 ∧ ∀ c ∈ A, c ≤ p.1 ∨ p.2 ≤ c := by
  induction A with
  | nil => simp [pairsL] at hp
  | cons a A ih =>
    cases A with
    | nil => simp [pairsL] at hp
    | cons b r =>
      have hA' := hA
      rw [List.pairwise_cons] at hA
      simp only [pairsL, List.mem_cons] at hp
      rcases hp with rfl | hp
      · have hab := hA.1 b (by simp)
        refine ⟨by simp, by simp, hab, fun c hc => ?_⟩
        rcases List.mem_cons.1 hc with rfl | hc
        · exact .inl (Int.le_refl _)
        · rcases List.mem_cons.1 hc with rfl | hc
          · exact .inr (Int.le_refl _)
          · have := (List.pairwise_cons.1 hA.2).1 c hc; exact .inr (by simp only; omega)
      · obtain ⟨h1, h2, h3, h4⟩ := ih hA.2 hp
        refine ⟨List.mem_cons_of_mem _ h1, List.mem_cons_of_mem _ h2, h3, fun c hc => ?_⟩
        rcases List.mem_cons.1 hc with rfl | hc
        · have := hA.1 p.1 h1; exact .inl (by omega)
        · exact h4 c hc

theorem pairs_cover (A : List Int) (P : Int) (lo hi : Int) (hlo : lo ∈ A) (hhi : hi ∈ A) (hlt : lo < hi) (h1 : 2 * lo ≤ P) (h2 : P ≤ 2 * hi) (hA : A.Pairwise (· < ·)) : ∃ p ∈ pairsL A, 2 * p.1 ≤ P ∧ P ≤ 2 * p.2 := by
  induction A generalizing lo with
  | nil => simp at hlo
  | cons a A ih =>
    cases A with
    | nil => simp at hlo hhi; omega
    | cons b r =>
      rw [List.pairwise_cons] at hA
      have hab := hA.1 b (by simp)
      by_cases hPb : P ≤ 2 * b
      · rcases List.mem_cons.1 hlo with rfl | hlo'
        · exact ⟨(lo, b), by simp [pairsL], h1, hPb⟩
        · have h3 : b ≤ lo := by
            rcases List.mem_cons.1 hlo' with rfl | h
            · exact Int.le_refl _
            · have := (List.pairwise_cons.1 hA.2).1 lo h; omega
          exact ⟨(a, b), by simp [pairsL], by simp only; omega, hPb⟩
      · have hhi' : hi ∈ b :: r := by
          rcases List.mem_cons.1 hhi with rfl | h
          · omega
          · exact h
        obtain ⟨p, hp, h5⟩ := ih b (by simp) hhi' (by
          rcases List.mem_cons.1 hhi' with h | h
          · omega
          · exact (List.pairwise_cons.1 hA.2).1 hi h) (by omega) hA.2
        exact ⟨p, by simp only [pairsL]; exact List.mem_cons_of_mem _ hp, h5⟩

theorem mem_inner {lo hi k : Int} {x : Bx} {n : Int} : n ∈ inner lo hi k x ↔ (lo < n ∧ n < hi) ∧ (n = x.lo k ∨ n = x.hi k) := by
  unfold inner
  rw [List.mem_append]
  constructor
  · rintro (h | h)
    · split at h
      · rename_i hc; rw [List.mem_singleton.1 h]; exact ⟨hc, .inl rfl⟩
      · simp at h
    · split at h
      · rename_i hc; rw [List.mem_singleton.1 h]; exact ⟨hc, .inr rfl⟩
      · simp at h
  · rintro ⟨hc, rfl | rfl⟩
    · exact .inl (by rw [if_pos hc]; simp)
    · exact .inr (by rw [if_pos hc]; simp)
theorem mem_atL {l : List Bx} {lo hi k n : Int} : n ∈ atL l lo hi k ↔ n = lo ∨ n = hi ∨ ∃ x ∈ l, (lo < n ∧ n < hi) ∧ (n = x.lo k ∨ n = x.hi k) := by
  unfold atL
  simp only [List.mem_cons, List.mem_flatMap, mem_inner]

/-- A part of a box along an axis lies in the box, and no end of another box lies strictly within it. -/
theorem parts_spec {l : List Bx} {b : Bx} {k : Int} (hb : b.lo k ≤ b.hi k) {p : Int × Int} (hp : p ∈ partsL l b k) :
    b.lo k ≤ p.1 ∧ p.1 ≤ p.2 ∧ p.2 ≤ b.hi k ∧ (p.1 = p.2 ∨ ∀ x ∈ l, (x.lo k ≤ p.1 ∨ p.2 ≤ x.lo k) ∧ (x.hi k ≤ p.1 ∨ p.2 ≤ x.hi k)) := by
  unfold partsL at hp
  split at hp
  · rename_i he
    rw [List.mem_singleton.1 hp]
    exact ⟨Int.le_refl _, hb, Int.le_refl _, .inl he⟩
  · rename_i he
    obtain ⟨c1, c2⟩ := cutsL_spec (atL l (b.lo k) (b.hi k) k)
    obtain ⟨h1, h2, h3, h4⟩ := pairs_mem _ c2 p hp
    have in1 : ∀ n ∈ cutsL (atL l (b.lo k) (b.hi k) k), b.lo k ≤ n ∧ n ≤ b.hi k := fun n hn => by
      rw [c1, mem_atL] at hn
      rcases hn with rfl | rfl | ⟨x, _, hx, _⟩ <;> omega
    have b1 := in1 _ h1
    have b2 := in1 _ h2
    refine ⟨b1.1, by omega, b2.2, .inr fun x hx => ⟨?_, ?_⟩⟩
    · by_cases hc : b.lo k < x.lo k ∧ x.lo k < b.hi k
      · exact h4 _ ((c1 _).2 (mem_atL.2 (.inr (.inr ⟨x, hx, hc, .inl rfl⟩))))
      · omega
    · by_cases hc : b.lo k < x.hi k ∧ x.hi k < b.hi k
      · exact h4 _ ((c1 _).2 (mem_atL.2 (.inr (.inr ⟨x, hx, hc, .inr rfl⟩))))
      · omega
theorem parts_cover {l : List Bx} {b : Bx} {k : Int} (hb : b.lo k ≤ b.hi k) (P : Int) (h1 : 2 * b.lo k ≤ P) (h2 : P ≤ 2 * b.hi k) : ∃ p ∈ partsL l b k, 2 * p.1 ≤ P ∧ P ≤ 2 * p.2 := by
  unfold partsL
  split
  · exact ⟨_, List.mem_singleton.2 rfl, h1, h2⟩
  · rename_i he
    obtain ⟨c1, c2⟩ := cutsL_spec (atL l (b.lo k) (b.hi k) k)
    exact pairs_cover _ P (b.lo k) (b.hi k) ((c1 _).2 (mem_atL.2 (.inl rfl))) ((c1 _).2 (mem_atL.2 (.inr (.inl rfl)))) (by omega) h1 h2 c2

/-- A point, its coordinates doubled, in a box. -/
def inB (a : Bx) (P Q R : Int) : Prop := (2 * a.lx ≤ P ∧ P ≤ 2 * a.hx) ∧ (2 * a.ly ≤ Q ∧ Q ≤ 2 * a.hy) ∧ (2 * a.lz ≤ R ∧ R ≤ 2 * a.hz)

theorem lo0 (b : Bx) : b.lo 0 = b.lx := rfl
theorem lo1 (b : Bx) : b.lo 1 = b.ly := rfl
theorem lo2 (b : Bx) : b.lo 2 = b.lz := rfl
theorem hi0 (b : Bx) : b.hi 0 = b.hx := rfl
theorem hi1 (b : Bx) : b.hi 1 = b.hy := rfl
theorem hi2 (b : Bx) : b.hi 2 = b.hz := rfl

theorem mid_axis {p : Int × Int} {lo hi : Int} (h : p.1 = p.2 ∨ ((lo ≤ p.1 ∨ p.2 ≤ lo) ∧ (hi ≤ p.1 ∨ p.2 ≤ hi))) (h1 : 2 * lo ≤ p.1 + p.2) (h2 : p.1 + p.2 ≤ 2 * hi) : lo ≤ p.1 ∧ p.2 ≤ hi := by
  rcases h with h | ⟨h3, h4⟩ <;> omega

theorem covers_iff {l : List Bx} {b : Bx} (h0 : b.lx ≤ b.hx) (h1 : b.ly ≤ b.hy) (h2 : b.lz ≤ b.hz) : coversB l b = true ↔ ∀ P Q R, inB b P Q R → ∃ a ∈ l, inB a P Q R := by
  constructor
  · intro h P Q R ⟨hP, hQ, hR⟩
    obtain ⟨x, hx, hx1⟩ := parts_cover (l := l) (b := b) (k := 0) h0 P hP.1 hP.2
    obtain ⟨y, hy, hy1⟩ := parts_cover (l := l) (b := b) (k := 1) h1 Q hQ.1 hQ.2
    obtain ⟨z, hz, hz1⟩ := parts_cover (l := l) (b := b) (k := 2) h2 R hR.1 hR.2
    have c1 := List.all_eq_true.1 h x hx
    have c2 := List.all_eq_true.1 c1 y hy
    have c3 := List.all_eq_true.1 c2 z hz
    obtain ⟨a, ha, hc⟩ := List.any_eq_true.1 c3
    have hc := contains_iff.1 hc
    simp only [cellX] at hc
    exact ⟨a, ha, by unfold inB; omega⟩
  · intro h
    refine List.all_eq_true.2 fun x hx => List.all_eq_true.2 fun y hy => List.all_eq_true.2 fun z hz => ?_
    obtain ⟨x1, x2, x3, x4⟩ := parts_spec (k := 0) h0 hx
    obtain ⟨y1, y2, y3, y4⟩ := parts_spec (k := 1) h1 hy
    obtain ⟨z1, z2, z3, z4⟩ := parts_spec (k := 2) h2 hz
    simp only [lo0, lo1, lo2, hi0, hi1, hi2] at x1 x3 x4 y1 y3 y4 z1 z3 z4
    obtain ⟨a, ha, hP, hQ, hR⟩ := h (x.1 + x.2) (y.1 + y.2) (z.1 + z.2) (by unfold inB; omega)
    refine List.any_eq_true.2 ⟨a, ha, contains_iff.2 ?_⟩
    have e1 := mid_axis (x4.imp id (fun h => h a ha)) hP.1 hP.2
    have e2 := mid_axis (y4.imp id (fun h => h a ha)) hQ.1 hQ.2
    have e3 := mid_axis (z4.imp id (fun h => h a ha)) hR.1 hR.2
    simp only [cellX]
    omega

end Go.Proofs.YtmoechhfjmemaaaGreat
