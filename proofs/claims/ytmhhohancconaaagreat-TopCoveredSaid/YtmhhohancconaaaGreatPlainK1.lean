/- PlainK, PlainK2, PlainM in one text. -/
import Derived.Test.YtmhhohancconaaaGreatPlainK0
import Derived.Test.YtmhhohancconaaaGreatBoxK
namespace Go.Proofs.YtmhhohancconaaaGreat
open Go.RowKit
set_option maxRecDepth 20000

def topN (p : Nat → Bool) : Nat → Nat
  | 0 => 0
  | n + 1 => if p n = true then n + 1 else topN p n
theorem topN_spec (p : Nat → Bool) (n : Nat) : topN p n ≤ n ∧ (0 < topN p n → p (topN p n - 1) = true) ∧ ∀ j, topN p n ≤ j → j < n → p j = false := by
  induction n with
  | zero => exact ⟨Nat.le_refl _, fun h => absurd h (Nat.not_lt_zero _), fun j _ h => absurd h (Nat.not_lt_zero _)⟩
  | succ n ih =>
    unfold topN
    split
    · rename_i h
      exact ⟨Nat.le_refl _, fun _ => h, fun j h1 h2 => by omega⟩
    · rename_i h
      obtain ⟨i1, i2, i3⟩ := ih
      refine ⟨by omega, i2, fun j h1 h2 => ?_⟩
      by_cases hj : j < n
      · exact i3 j h1 hj
      · obtain rfl : j = n := by omega
        simpa using h
theorem topN_of {p : Nat → Bool} {n k : Nat} (h1 : k ≤ n) (h2 : 0 < k → p (k - 1) = true) (h3 : ∀ j, k ≤ j → j < n → p j = false) : topN p n = k := by
  obtain ⟨i1, i2, i3⟩ := topN_spec p n
  rcases Nat.lt_trichotomy (topN p n) k with h | h | h
  · have a := h2 (by omega)
    rw [i3 (k - 1) (by omega) (by omega)] at a
    exact absurd a Bool.false_ne_true
  · exact h
  · have a := i2 (by omega)
    rw [h3 (topN p n - 1) (by omega) (by omega)] at a
    exact absurd a Bool.false_ne_true
def topC (p : Nat → Bool) : Int := (topN p 2097153 : Int) - 1
theorem topC_in (p : Nat → Bool) : -1 ≤ topC p ∧ topC p ≤ 2097152 := by
  have := (topN_spec p 2097153).1
  unfold topC; omega
theorem topC_ge {p : Nat → Bool} {c : Nat} (hc : c < 2097153) (h : p c = true) : (c : Int) ≤ topC p := by
  obtain ⟨i1, _, i3⟩ := topN_spec p 2097153
  unfold topC
  by_cases hj : topN p 2097153 ≤ c
  · rw [i3 c hj hc] at h; exact absurd h Bool.false_ne_true
  · omega
theorem topC_has {p : Nat → Bool} (h : 0 ≤ topC p) : p (topC p).toNat = true := by
  obtain ⟨_, i2, _⟩ := topN_spec p 2097153
  unfold topC at h ⊢
  have := i2 (by omega)
  rwa [show ((topN p 2097153 : Int) - 1).toNat = topN p 2097153 - 1 by omega]
theorem topC_next {p : Nat → Bool} (h : (topC p + 1).toNat < 2097153) : p (topC p + 1).toNat = false := by
  obtain ⟨_, _, i3⟩ := topN_spec p 2097153
  unfold topC at h ⊢
  rw [show ((topN p 2097153 : Int) - 1 + 1).toNat = topN p 2097153 by omega] at h ⊢
  exact i3 _ (Nat.le_refl _) h
theorem topC_mono {p q : Nat → Bool} (h : ∀ c, p c = true → q c = true) : topC p ≤ topC q := by
  by_cases h0 : 0 ≤ topC p
  · have h1 := topC_in p
    have h2 := topC_ge (c := (topC p).toNat) (by omega) (h _ (topC_has h0))
    omega
  · have h1 := topC_in p
    have h2 := topC_in q
    omega
theorem topC_congr {p q : Nat → Bool} (h : ∀ c, p c = q c) : topC p = topC q := by rw [show p = q from funext h]
theorem topC_none {p : Nat → Bool} (h : ∀ a b, a ≤ b → p b = true → p a = true) (h0 : p 0 = false) : topC p = -1 := by
  have h1 := topC_in p
  by_cases hc : 0 ≤ topC p
  · have := h 0 _ (Nat.zero_le _) (topC_has hc)
    rw [h0] at this
    exact absurd this Bool.false_ne_true
  · omega
/-- A search from below and above, and the greatest number: for what holds below what holds. -/
theorem topN_mid {p : Nat → Bool} (_ : ∀ a b, a ≤ b → p b = true → p a = true) {k : Nat} (h1 : k ≤ 2097153) (h2 : ∀ j, j < k → p j = true) (h3 : ∀ j, k ≤ j → j < 2097153 → p j = false) : topC p = (k : Int) - 1 := by
  unfold topC
  rw [topN_of h1 (fun h => h2 _ (by omega)) h3]

/-- A core that is longer on one side: in the order of -X, X, -Y, Y, -Z, Z. -/
def sideX (b : Bx) (i : Nat) (c : Int) : Bx :=
  ⟨if i = 0 then b.lx - c else b.lx, if i = 2 then b.ly - c else b.ly, if i = 4 then b.lz - c else b.lz, if i = 1 then b.hx + c else b.hx, if i = 3 then b.hy + c else b.hy, if i = 5 then b.hz + c else b.hz⟩
def coverC (l m : List Bx) (b : Bx) : Int := topC fun c => containsS l m (grownX b c)
def sideC (l m : List Bx) (b : Bx) (i : Nat) : Int := topC fun c => containsS l m (sideX b i c)

def Ordd (b : Bx) : Prop := b.lx ≤ b.hx ∧ b.ly ≤ b.hy ∧ b.lz ≤ b.hz
theorem grown_zero (b : Bx) : grownX b 0 = b := by simp only [grownX, Int.sub_zero, Int.add_zero]
theorem side_zero (b : Bx) (i : Nat) : sideX b i 0 = b := by simp only [sideX, Int.sub_zero, Int.add_zero, ite_self]
theorem grown_le {b : Bx} (h : Ordd b) {a c : Nat} (hac : a ≤ c) : Ordd (grownX b a) ∧ Ordd (grownX b c) ∧ containsB (grownX b c) (grownX b a) = true := by
  unfold Ordd at h ⊢
  rw [contains_iff]; simp only [grownX]; omega
theorem side_le {b : Bx} (h : Ordd b) (i : Nat) {a c : Nat} (hac : a ≤ c) : Ordd (sideX b i a) ∧ Ordd (sideX b i c) ∧ containsB (sideX b i c) (sideX b i a) = true ∧ containsB (grownX b c) (sideX b i c) = true := by
  unfold Ordd at h ⊢
  simp only [contains_iff, sideX, grownX]
  refine ⟨⟨?_, ?_, ?_⟩, ⟨?_, ?_, ?_⟩, ⟨?_, ?_, ?_, ?_, ?_, ?_⟩, ⟨?_, ?_, ?_, ?_, ?_, ?_⟩⟩ <;> (repeat split) <;> omega
theorem cover_down {l m : List Bx} {b : Bx} (h : Ordd b) (a c : Nat) (hac : a ≤ c) (hc : containsS l m (grownX b c) = true) : containsS l m (grownX b a) = true := by
  obtain ⟨h1, h2, h3⟩ := grown_le h hac
  exact containsS_sub h2 h1 h3 hc
theorem side_down {l m : List Bx} {b : Bx} (h : Ordd b) (i : Nat) (a c : Nat) (hac : a ≤ c) (hc : containsS l m (sideX b i c) = true) : containsS l m (sideX b i a) = true := by
  obtain ⟨h1, h2, h3, _⟩ := side_le h i hac
  exact containsS_sub h2 h1 h3 hc
theorem side_ge {l m : List Bx} {b : Bx} (h : Ordd b) (i : Nat) : coverC l m b ≤ sideC l m b i :=
  topC_mono fun c hc => by
    obtain ⟨_, h2, _, h4⟩ := side_le h i (Nat.le_refl c)
    exact containsS_sub (grown_le h (Nat.le_refl c)).1 h2 h4 hc
theorem cover_sub {l m : List Bx} {a b : Bx} (ha : Ordd a) (hb : Ordd b) (h : containsB a b = true) : coverC l m a ≤ coverC l m b :=
  topC_mono fun c hc => by
    refine containsS_sub (grown_le ha (Nat.le_refl c)).1 (grown_le hb (Nat.le_refl c)).1 ?_ hc
    rw [contains_iff] at h ⊢
    simp only [grownX]; omega
theorem cover_none {l m : List Bx} {b : Bx} (h : Ordd b) (h0 : containsS l m b = false) : coverC l m b = -1 :=
  topC_none (cover_down h) (by rw [Int.ofNat_zero, grown_zero]; exact h0)
theorem side_none {l m : List Bx} {b : Bx} (h : Ordd b) (i : Nat) (h0 : containsS l m b = false) : sideC l m b i = -1 :=
  topC_none (side_down h i) (by rw [Int.ofNat_zero, side_zero]; exact h0)

/-- What is contained in valid boxes is valid. -/
theorem containsS_valid {l m : List Bx} {b : Bx} (hl : l.all thickB = true) (h : Ordd b) (hc : containsS l m b = true) : validB b = true := by
  obtain ⟨h1, h2, h3⟩ := h
  have hv := (covers_iff h1 h2 h3).1 (containsS_iff.1 hc).2
  obtain ⟨a, ha, ea⟩ := hv (2 * b.lx) (2 * b.ly) (2 * b.lz) ⟨by omega, by omega, by omega⟩
  obtain ⟨c, hc', ec⟩ := hv (2 * b.hx) (2 * b.hy) (2 * b.hz) ⟨by omega, by omega, by omega⟩
  have va := valid_iff.1 (thick_iff.1 (List.all_eq_true.1 hl a ha)).1
  have vc := valid_iff.1 (thick_iff.1 (List.all_eq_true.1 hl c hc')).1
  unfold inB at ea ec
  rw [valid_iff]
  omega
theorem cover_top {l m : List Bx} {b : Bx} (hl : l.all thickB = true) (h : Ordd b) : coverC l m b ≤ 1048576 := by
  by_cases h0 : 0 ≤ coverC l m b
  · have h1 : containsS l m (grownX b ((coverC l m b).toNat : Nat)) = true := topC_has (p := fun c => containsS l m (grownX b c)) h0
    generalize coverC l m b = k at *
    have hv := valid_iff.1 (containsS_valid hl (grown_le h (Nat.le_refl _)).1 h1)
    simp only [grownX] at hv
    obtain ⟨h1, h2, h3⟩ := h
    omega
  · omega

end Go.Proofs.YtmhhohancconaaaGreat

namespace Go.Proofs.YtmhhohancconaaaGreat
open Go.RowKit
set_option maxRecDepth 20000

theorem topC_eq {p : Nat → Bool} (hm : ∀ a b, a ≤ b → p b = true → p a = true) {v : Nat} (hv : v < 2097152) (h1 : p v = true) (h2 : p (v + 1) = false) : topC p = v := by
  unfold topC
  rw [topN_of (k := v + 1) (by omega) (fun _ => h1) (fun j q1 _ => by
    cases hp : p j
    · rfl
    · rw [hm (v + 1) j q1 hp] at h2; exact absurd h2.symm Bool.false_ne_true)]
  omega
theorem contains_one (B : Bx) {b : Bx} (h : Ordd b) : containsS [B] [] b = containsB B b := by
  obtain ⟨h1, h2, h3⟩ := h
  rw [Bool.eq_iff_iff, containsS_iff, covers_iff h1 h2 h3, contains_iff]
  constructor
  · rintro ⟨_, hc⟩
    obtain ⟨a, ha, ea⟩ := hc (2 * b.lx) (2 * b.ly) (2 * b.lz) ⟨by omega, by omega, by omega⟩
    obtain ⟨c, hc', ec⟩ := hc (2 * b.hx) (2 * b.hy) (2 * b.hz) ⟨by omega, by omega, by omega⟩
    obtain rfl := List.mem_singleton.1 ha
    obtain rfl := List.mem_singleton.1 hc'
    unfold inB at ea ec
    omega
  · intro hc
    refine ⟨fun h hm => absurd hm (List.not_mem_nil), fun P Q R hp => ⟨B, List.mem_singleton_self _, ?_⟩⟩
    unfold inB at hp ⊢
    omega
theorem cover_one {B b : Bx} {v : Nat} (h : Ordd b) (hv : v < 2097152) (h1 : containsB B (grownX b v) = true) (h2 : containsB B (grownX b (v + 1 : Nat)) = false) : coverC [B] [] b = v :=
  topC_eq (cover_down h) hv (by rw [contains_one B (grown_le h (Nat.le_refl _)).1]; exact h1) (by rw [contains_one B (grown_le h (Nat.le_refl _)).1]; exact h2)
theorem side_one {B b : Bx} {v : Nat} (i : Nat) (h : Ordd b) (hv : v < 2097152) (h1 : containsB B (sideX b i v) = true) (h2 : containsB B (sideX b i (v + 1 : Nat)) = false) : sideC [B] [] b i = v :=
  topC_eq (side_down h i) hv (by rw [contains_one B (side_le h i (Nat.le_refl _)).1]; exact h1) (by rw [contains_one B (side_le h i (Nat.le_refl _)).1]; exact h2)

end Go.Proofs.YtmhhohancconaaaGreat

namespace Go.Proofs.YtmhhohancconaaaGreat
open Go.RowKit
set_option maxRecDepth 20000

def turnX (b : Bx) : Bx := ⟨-b.hx, b.ly, b.lz, -b.lx, b.hy, b.hz⟩
theorem opens_moved (dx dy dz : Int) (h b : Bx) : opensB (movedX dx dy dz h) (movedX dx dy dz b) = opensB h b := by
  rw [Bool.eq_iff_iff, opens_iff, opens_iff]; simp only [movedX]; omega
theorem opens_turned (h b : Bx) : opensB (turnX h) (turnX b) = opensB h b := by
  rw [Bool.eq_iff_iff, opens_iff, opens_iff]; simp only [turnX]; omega
theorem covers_moved (dx dy dz : Int) (l : List Bx) {b : Bx} (h : Ordd b) : coversB (l.map (movedX dx dy dz)) (movedX dx dy dz b) = coversB l b := by
  obtain ⟨h1, h2, h3⟩ := h
  rw [Bool.eq_iff_iff, covers_iff h1 h2 h3, covers_iff (by simp only [movedX]; omega) (by simp only [movedX]; omega) (by simp only [movedX]; omega)]
  constructor
  · intro hc P Q R hp
    obtain ⟨a, ha, he⟩ := hc (P + 2 * dx) (Q + 2 * dy) (R + 2 * dz) (by unfold inB at hp ⊢; simp only [movedX]; omega)
    obtain ⟨a', ha', rfl⟩ := List.mem_map.1 ha
    exact ⟨a', ha', by unfold inB at he ⊢; simp only [movedX] at he; omega⟩
  · intro hc P Q R hp
    obtain ⟨a, ha, he⟩ := hc (P - 2 * dx) (Q - 2 * dy) (R - 2 * dz) (by unfold inB at hp ⊢; simp only [movedX] at hp; omega)
    exact ⟨_, List.mem_map.2 ⟨a, ha, rfl⟩, by unfold inB at he ⊢; simp only [movedX]; omega⟩
theorem covers_turned (l : List Bx) {b : Bx} (h : Ordd b) : coversB (l.map turnX) (turnX b) = coversB l b := by
  obtain ⟨h1, h2, h3⟩ := h
  rw [Bool.eq_iff_iff, covers_iff h1 h2 h3, covers_iff (by simp only [turnX]; omega) (by simp only [turnX]; omega) (by simp only [turnX]; omega)]
  constructor
  · intro hc P Q R hp
    obtain ⟨a, ha, he⟩ := hc (-P) Q R (by unfold inB at hp ⊢; simp only [turnX]; omega)
    obtain ⟨a', ha', rfl⟩ := List.mem_map.1 ha
    exact ⟨a', ha', by unfold inB at he ⊢; simp only [turnX] at he; omega⟩
  · intro hc P Q R hp
    obtain ⟨a, ha, he⟩ := hc (-P) Q R (by unfold inB at hp ⊢; simp only [turnX] at hp; omega)
    exact ⟨_, List.mem_map.2 ⟨a, ha, rfl⟩, by unfold inB at he ⊢; simp only [turnX]; omega⟩
theorem containsS_moved (dx dy dz : Int) (l m : List Bx) {b : Bx} (h : Ordd b) : containsS (l.map (movedX dx dy dz)) (m.map (movedX dx dy dz)) (movedX dx dy dz b) = containsS l m b := by
  rw [Bool.eq_iff_iff, containsS_iff, containsS_iff, covers_moved dx dy dz l h]
  have : (∀ a ∈ m.map (movedX dx dy dz), opensB a (movedX dx dy dz b) = false) ↔ ∀ a ∈ m, opensB a b = false :=
    ⟨fun g a ha => by rw [← opens_moved dx dy dz]; exact g _ (List.mem_map.2 ⟨a, ha, rfl⟩), fun g a ha => by obtain ⟨a', ha', rfl⟩ := List.mem_map.1 ha; rw [opens_moved]; exact g _ ha'⟩
  rw [this]
theorem containsS_turned (l m : List Bx) {b : Bx} (h : Ordd b) : containsS (l.map turnX) (m.map turnX) (turnX b) = containsS l m b := by
  rw [Bool.eq_iff_iff, containsS_iff, containsS_iff, covers_turned l h]
  have : (∀ a ∈ m.map turnX, opensB a (turnX b) = false) ↔ ∀ a ∈ m, opensB a b = false :=
    ⟨fun g a ha => by rw [← opens_turned]; exact g _ (List.mem_map.2 ⟨a, ha, rfl⟩), fun g a ha => by obtain ⟨a', ha', rfl⟩ := List.mem_map.1 ha; rw [opens_turned]; exact g _ ha'⟩
  rw [this]
theorem side_moved (dx dy dz : Int) (b : Bx) (i : Nat) (c : Int) : sideX (movedX dx dy dz b) i c = movedX dx dy dz (sideX b i c) := by
  simp only [sideX, movedX, Bx.mk.injEq]
  refine ⟨?_, ?_, ?_, ?_, ?_, ?_⟩ <;> split <;> omega
/-- The side that a mirrored side becomes. -/
def otherI (i : Nat) : Nat := if i = 0 then 1 else if i = 1 then 0 else i
theorem side_turned (b : Bx) (i : Nat) (c : Int) : sideX (turnX b) i c = turnX (sideX b (otherI i) c) := by
  unfold otherI
  by_cases h0 : i = 0
  · subst h0; simp [sideX, turnX]; omega
  by_cases h1 : i = 1
  · subst h1; simp [sideX, turnX]; omega
  rw [if_neg h0, if_neg h1]
  simp [sideX, turnX, h0, h1]
theorem sideC_moved (dx dy dz : Int) (l m : List Bx) {b : Bx} (h : Ordd b) (i : Nat) : sideC (l.map (movedX dx dy dz)) (m.map (movedX dx dy dz)) (movedX dx dy dz b) i = sideC l m b i :=
  topC_congr fun c => by rw [side_moved, containsS_moved dx dy dz l m (side_le h i (Nat.le_refl c)).1]
theorem sideC_turned (l m : List Bx) {b : Bx} (h : Ordd b) (i : Nat) : sideC (l.map turnX) (m.map turnX) (turnX b) i = sideC l m b (otherI i) :=
  topC_congr fun c => by rw [side_turned, containsS_turned l m (side_le h _ (Nat.le_refl c)).1]
theorem grown_moved (dx dy dz : Int) (b : Bx) (n : Int) : grownX (movedX dx dy dz b) n = movedX dx dy dz (grownX b n) := by
  simp only [grownX, movedX, Bx.mk.injEq]; omega
theorem grown_turned (b : Bx) (n : Int) : grownX (turnX b) n = turnX (grownX b n) := by
  unfold grownX turnX
  have e1 : -b.hx - n = -(b.hx + n) := by omega
  have e2 : -b.lx + n = -(b.lx - n) := by omega
  simp only [e1, e2]
theorem thick_turned (b : Bx) : thickB (turnX b) = thickB b := by
  rw [Bool.eq_iff_iff, thick_iff, thick_iff, valid_iff, valid_iff]; simp only [turnX]; omega
theorem valid_turned (b : Bx) : validB (turnX b) = validB b := by
  rw [Bool.eq_iff_iff, valid_iff, valid_iff]; simp only [turnX]; omega
theorem solid_turned (l m : List Bx) : solidB (l.map turnX) (m.map turnX) = solidB l m := by
  rw [Bool.eq_iff_iff, solid_iff, solid_iff]
  simp only [List.length_map, List.all_map, Function.comp_def, thick_turned]

end Go.Proofs.YtmhhohancconaaaGreat

