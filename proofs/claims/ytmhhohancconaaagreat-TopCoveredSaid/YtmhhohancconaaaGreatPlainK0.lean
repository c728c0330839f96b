/- SumA, PlainV, PlainW, PlainC, PlainX, PlainE in one text. -/
import Derived.Test.YtmhhohancconaaaGreatRefK
import Derived.Test.YtmhhohancconaaaGreatBaseK
import Derived.Test.YtmhhohancconaaaGreatHull
namespace Go.Proofs.YtmhhohancconaaaGreat

def sumN (f : Nat → Int) : Nat → Int
  | 0 => 0
  | n + 1 => sumN f n + f n
/-- The sum of f from lo on, below hi. -/
def sumI (f : Int → Int) (lo hi : Int) : Int := sumN (fun i => f (lo + i)) (hi - lo).toNat

theorem sumN_congr {f g : Nat → Int} {n : Nat} (h : ∀ i, i < n → f i = g i) : sumN f n = sumN g n := by
  induction n with
  | zero => rfl
  | succ n ih => rw [sumN, sumN, ih (fun i hi => h i (by omega)), h n (by omega)]
theorem sumN_add {f : Nat → Int} (m n : Nat) : sumN f (m + n) = sumN f m + sumN (fun i => f (m + i)) n := by
  induction n with
  | zero => simp [sumN]
  | succ n ih => rw [show m + (n + 1) = (m + n) + 1 by omega, sumN, ih, sumN]; omega
theorem sumN_plus {f g : Nat → Int} (n : Nat) : sumN (fun i => f i + g i) n = sumN f n + sumN g n := by
  induction n with
  | zero => rfl
  | succ n ih => rw [sumN, sumN, sumN, ih]; omega
theorem sumN_const (c : Int) (n : Nat) : sumN (fun _ => c) n = c * n := by
  induction n with
  | zero => simp [sumN]
  | succ n ih => rw [sumN, ih]; simp [Int.mul_add]
theorem sumN_le {f g : Nat → Int} {n : Nat} (h : ∀ i, i < n → f i ≤ g i) : sumN f n ≤ sumN g n := by
  induction n with
  | zero => exact Int.le_refl _
  | succ n ih => rw [sumN, sumN]; have := ih (fun i hi => h i (by omega)); have := h n (by omega); omega

theorem sumI_empty {f : Int → Int} {lo hi : Int} (h : hi ≤ lo) : sumI f lo hi = 0 := by
  unfold sumI; rw [show (hi - lo).toNat = 0 by omega]; rfl
theorem sumI_congr {f g : Int → Int} {lo hi : Int} (h : ∀ x, lo ≤ x → x < hi → f x = g x) : sumI f lo hi = sumI g lo hi := by
  unfold sumI; exact sumN_congr fun i hi => h _ (by omega) (by omega)
theorem sumI_split {f : Int → Int} {lo mid hi : Int} (h1 : lo ≤ mid) (h2 : mid ≤ hi) : sumI f lo hi = sumI f lo mid + sumI f mid hi := by
  unfold sumI
  rw [show (hi - lo).toNat = (mid - lo).toNat + (hi - mid).toNat by omega, sumN_add]
  congr 1
  exact sumN_congr fun i _ => by congr 1; omega
theorem sumI_plus {f g : Int → Int} (lo hi : Int) : sumI (fun x => f x + g x) lo hi = sumI f lo hi + sumI g lo hi := by
  unfold sumI; exact sumN_plus _
theorem sumI_const {lo hi : Int} (c : Int) (h : lo ≤ hi) : sumI (fun _ => c) lo hi = c * (hi - lo) := by
  unfold sumI; rw [sumN_const]; congr 1; omega
theorem sumI_zero (lo hi : Int) : sumI (fun _ => 0) lo hi = 0 := by
  unfold sumI; rw [sumN_const]; simp
theorem sumI_null {f : Int → Int} {lo hi : Int} (h : ∀ x, lo ≤ x → x < hi → f x = 0) : sumI f lo hi = 0 := by
  rw [sumI_congr h, sumI_zero]
theorem sumI_le {f g : Int → Int} {lo hi : Int} (h : ∀ x, lo ≤ x → x < hi → f x ≤ g x) : sumI f lo hi ≤ sumI g lo hi := by
  unfold sumI; exact sumN_le fun i hi => h _ (by omega) (by omega)
theorem sumI_nonneg {f : Int → Int} {lo hi : Int} (h : ∀ x, lo ≤ x → x < hi → 0 ≤ f x) : 0 ≤ sumI f lo hi := by
  rw [← sumI_zero lo hi]; exact sumI_le h
theorem sumI_shift (f : Int → Int) (lo hi d : Int) : sumI (fun x => f (x - d)) (lo + d) (hi + d) = sumI f lo hi := by
  unfold sumI
  rw [show (hi + d - (lo + d)).toNat = (hi - lo).toNat by omega]
  refine sumN_congr fun i _ => ?_
  show f (lo + d + (i : Int) - d) = f (lo + i)
  congr 1; omega
/-- The sum over a range within a greater one, beyond which f is 0. -/
theorem sumI_grow {f : Int → Int} {lo hi a z : Int} (h1 : a ≤ lo) (h2 : lo ≤ hi) (h3 : hi ≤ z) (h : ∀ x, a ≤ x → x < z → x < lo ∨ hi ≤ x → f x = 0) : sumI f a z = sumI f lo hi := by
  rw [sumI_split h1 (show lo ≤ z by omega), sumI_split h2 h3, sumI_null fun x p q => h x p (by omega) (by omega), sumI_null fun x p q => h x (by omega) q (by omega)]
  omega

/-- The sum over a list. -/
def sumL {α : Type} (f : α → Int) : List α → Int
  | [] => 0
  | a :: l => f a + sumL f l
theorem sumL_append {α : Type} (f : α → Int) (l m : List α) : sumL f (l ++ m) = sumL f l + sumL f m := by
  induction l with
  | nil => simp [sumL]
  | cons a l ih => rw [List.cons_append, sumL, sumL, ih]; omega
theorem sumL_flat {α β : Type} (f : β → Int) (g : α → List β) (l : List α) : sumL f (l.flatMap g) = sumL (fun a => sumL f (g a)) l := by
  induction l with
  | nil => rfl
  | cons a l ih => rw [List.flatMap_cons, sumL_append, sumL, ih]
theorem sumL_map {α β : Type} (f : β → Int) (g : α → β) (l : List α) : sumL f (l.map g) = sumL (fun a => f (g a)) l := by
  induction l with
  | nil => rfl
  | cons a l ih => rw [List.map_cons, sumL, sumL, ih]
theorem sumL_filter {α : Type} (f : α → Int) (p : α → Bool) (l : List α) : sumL f (l.filter p) = sumL (fun a => if p a = true then f a else 0) l := by
  induction l with
  | nil => rfl
  | cons a l ih =>
    rw [List.filter_cons]
    by_cases h : p a = true
    · rw [if_pos h, sumL, sumL, ih, if_pos h]
    · rw [if_neg h, sumL, ih, if_neg h]; omega
theorem sumL_congr {α : Type} {f g : α → Int} {l : List α} (h : ∀ a ∈ l, f a = g a) : sumL f l = sumL g l := by
  induction l with
  | nil => rfl
  | cons a l ih => rw [sumL, sumL, h a (by simp), ih fun b hb => h b (List.mem_cons_of_mem _ hb)]
theorem sumL_le {α : Type} {f g : α → Int} {l : List α} (h : ∀ a ∈ l, f a ≤ g a) : sumL f l ≤ sumL g l := by
  induction l with
  | nil => exact Int.le_refl _
  | cons a l ih => rw [sumL, sumL]; have := h a (by simp); have := ih fun b hb => h b (List.mem_cons_of_mem _ hb); omega
theorem sumL_nonneg {α : Type} {f : α → Int} {l : List α} (h : ∀ a ∈ l, 0 ≤ f a) : 0 ≤ sumL f l := by
  induction l with
  | nil => exact Int.le_refl _
  | cons a l ih => rw [sumL]; have := h a (by simp); have := ih fun b hb => h b (List.mem_cons_of_mem _ hb); omega
theorem sumL_take {α : Type} (f : α → Int) (l : List α) (i : Nat) (h : i < l.length) : sumL f (l.take (i + 1)) = sumL f (l.take i) + f l[i] := by
  rw [List.take_succ_eq_append_getElem h, sumL_append]; simp [sumL]
theorem sumL_take_le {α : Type} {f : α → Int} {l : List α} (h : ∀ a ∈ l, 0 ≤ f a) (i : Nat) : sumL f (l.take i) ≤ sumL f l := by
  have e : sumL f l = sumL f (l.take i) + sumL f (l.drop i) := by rw [← sumL_append, List.take_append_drop]
  have := sumL_nonneg (f := f) (l := l.drop i) (fun a ha => h a (List.mem_of_mem_drop ha))
  omega

/-- The spans between the neighbours of an ascending list make up the whole range. -/
theorem pairs_sum (f : Int → Int) : ∀ (A : List Int) (h : A ≠ []), A.Pairwise (· < ·) → sumL (fun p => sumI f p.1 p.2) (pairsL A) = sumI f (A.head h) (A.getLast h)
  | [a], _, _ => by simp [pairsL, sumL, sumI_empty]
  | a :: b :: r, _, hA => by
    rw [List.pairwise_cons] at hA
    have ih := pairs_sum f (b :: r) (by simp) hA.2
    have hab := hA.1 b (by simp)
    have hbl : b ≤ (b :: r).getLast (by simp) := by
      rcases List.mem_cons.1 (List.getLast_mem (l := b :: r) (by simp)) with h | h
      · omega
      · have := (List.pairwise_cons.1 hA.2).1 _ h; omega
    rw [pairsL, sumL, ih]
    simp only [List.head_cons, List.getLast_cons_cons] at *
    rw [sumI_split (Int.le_of_lt hab) hbl]
theorem head_le {A : List Int} (hA : A.Pairwise (· < ·)) (h : A ≠ []) {x : Int} (hx : x ∈ A) : A.head h ≤ x := by
  cases A with
  | nil => cases hx
  | cons a r =>
    rcases List.mem_cons.1 hx with e | e
    · subst e; exact Int.le_refl _
    · have := (List.pairwise_cons.1 hA).1 x e; simp only [List.head_cons]; omega
theorem le_last {A : List Int} (hA : A.Pairwise (· < ·)) (h : A ≠ []) {x : Int} (hx : x ∈ A) : x ≤ A.getLast h := by
  induction A with
  | nil => cases hx
  | cons a r ih =>
    rw [List.pairwise_cons] at hA
    cases r with
    | nil => simp at hx; subst hx; exact Int.le_refl _
    | cons b r =>
      rw [List.getLast_cons_cons]
      rcases List.mem_cons.1 hx with e | e
      · have h1 := hA.1 b (by simp)
        have h2 : b ≤ (b :: r).getLast (by simp) := by
          rcases List.mem_cons.1 (List.getLast_mem (l := b :: r) (by simp)) with h | h
          · omega
          · have := (List.pairwise_cons.1 hA.2).1 _ h; omega
        omega
      · exact ih hA.2 (by simp) e
/-- Two ascending lists of the same numbers are the same. -/
theorem asc_ext : ∀ {A B : List Int}, A.Pairwise (· < ·) → B.Pairwise (· < ·) → (∀ x, x ∈ A ↔ x ∈ B) → A = B
  | [], [], _, _, _ => rfl
  | [], b :: B, _, _, h => absurd ((h b).2 (by simp)) (by simp)
  | a :: A, [], _, _, h => absurd ((h a).1 (by simp)) (by simp)
  | a :: A, b :: B, hA, hB, h => by
    rw [List.pairwise_cons] at hA hB
    have e : a = b := by
      have h1 := (h a).1 (by simp)
      have h2 := (h b).2 (by simp)
      rcases List.mem_cons.1 h1 with e | e
      · exact e
      rcases List.mem_cons.1 h2 with f | f
      · exact f.symm
      have := hB.1 a e
      have := hA.1 b f
      omega
    subst e
    congr 1
    refine asc_ext hA.2 hB.2 fun x => ⟨fun hx => ?_, fun hx => ?_⟩
    · rcases List.mem_cons.1 ((h x).1 (List.mem_cons_of_mem _ hx)) with e | e
      · subst e; have := hA.1 x hx; omega
      · exact e
    · rcases List.mem_cons.1 ((h x).2 (List.mem_cons_of_mem _ hx)) with e | e
      · subst e; have := hB.1 x hx; omega
      · exact e

/-- The sums along the three axes. -/
def sum3 (f : Int → Int → Int → Int) (b : Bx) : Int := sumI (fun x => sumI (fun y => sumI (fun z => f x y z) b.lz b.hz) b.ly b.hy) b.lx b.hx
theorem sum3_le {f g : Int → Int → Int → Int} {b : Bx} (h : ∀ x y z, f x y z ≤ g x y z) : sum3 f b ≤ sum3 g b :=
  sumI_le fun x _ _ => sumI_le fun y _ _ => sumI_le fun z _ _ => h x y z
theorem sum3_congr {f g : Int → Int → Int → Int} {b : Bx} (h : ∀ x y z, f x y z = g x y z) : sum3 f b = sum3 g b :=
  sumI_congr fun x _ _ => sumI_congr fun y _ _ => sumI_congr fun z _ _ => h x y z
theorem sum3_plus (f g : Int → Int → Int → Int) (b : Bx) : sum3 (fun x y z => f x y z + g x y z) b = sum3 f b + sum3 g b := by
  unfold sum3
  rw [← sumI_plus]
  refine sumI_congr fun x _ _ => ?_
  rw [← sumI_plus]
  refine sumI_congr fun y _ _ => ?_
  rw [← sumI_plus]
/-- f is 0 beyond the smaller box: the sum over a greater one is the same. -/
theorem sum3_grow {f : Int → Int → Int → Int} {a b : Bx} (hc : containsB a b = true) (hb : b.lx ≤ b.hx ∧ b.ly ≤ b.hy ∧ b.lz ≤ b.hz)
    (h : ∀ x y z, (x < b.lx ∨ b.hx ≤ x ∨ y < b.ly ∨ b.hy ≤ y ∨ z < b.lz ∨ b.hz ≤ z) → f x y z = 0) : sum3 f a = sum3 f b := by
  have hc := contains_iff.1 hc
  unfold sum3
  rw [sumI_grow hc.1 hb.1 hc.2.1 (fun x _ _ hx => sumI_null fun y _ _ => sumI_null fun z _ _ => h x y z (by omega))]
  refine sumI_congr fun x _ _ => ?_
  rw [sumI_grow hc.2.2.1 hb.2.1 hc.2.2.2.1 (fun y _ _ hy => sumI_null fun z _ _ => h x y z (by omega))]
  refine sumI_congr fun y _ _ => ?_
  rw [sumI_grow hc.2.2.2.2.1 hb.2.2 hc.2.2.2.2.2 (fun z _ _ hz => h x y z (by omega))]

end Go.Proofs.YtmhhohancconaaaGreat

namespace Go.Proofs.YtmhhohancconaaaGreat

/-- A box has the unit cell from (x, y, z) on. -/
def inU (a : Bx) (x y z : Int) : Bool := decide (a.lx ≤ x ∧ x < a.hx ∧ a.ly ≤ y ∧ y < a.hy ∧ a.lz ≤ z ∧ z < a.hz)
def opensB (h b : Bx) : Bool := decide (b.lx < h.hx ∧ h.lx < b.hx ∧ b.ly < h.hy ∧ h.ly < b.hy ∧ b.lz < h.hz ∧ h.lz < b.hz)
def selB (l m : List Bx) (c : Bx) : Bool := (l.any fun a => containsB a c) && !(m.any fun h => opensB h c)
def solU (l m : List Bx) (x y z : Int) : Bool := (l.any fun a => inU a x y z) && !(m.any fun h => inU h x y z)
def b01 (b : Bool) : Int := if b = true then 1 else 0
def indU (l m : List Bx) (x y z : Int) : Int := b01 (solU l m x y z)
def volB (b : Bx) : Int := (b.hx - b.lx) * (b.hy - b.ly) * (b.hz - b.lz)
def areaB (b : Bx) : Int := (b.hy - b.ly) * (b.hz - b.lz)

theorem inU_iff {a : Bx} {x y z : Int} : inU a x y z = true ↔ (a.lx ≤ x ∧ x < a.hx ∧ a.ly ≤ y ∧ y < a.hy ∧ a.lz ≤ z ∧ z < a.hz) := by unfold inU; exact decide_eq_true_iff
theorem opens_iff {h b : Bx} : opensB h b = true ↔ (b.lx < h.hx ∧ h.lx < b.hx ∧ b.ly < h.hy ∧ h.ly < b.hy ∧ b.lz < h.hz ∧ h.lz < b.hz) := by unfold opensB; exact decide_eq_true_iff
theorem b01_true : b01 true = 1 := rfl
theorem b01_false : b01 false = 0 := rfl
theorem b01_bounds (b : Bool) : 0 ≤ b01 b ∧ b01 b ≤ 1 := by cases b <;> decide

/-- No end of a box lies strictly within the span p, along axis k. -/
def clearOf (p : Int × Int) (k : Int) (a : Bx) : Prop := (a.lo k ≤ p.1 ∨ p.2 ≤ a.lo k) ∧ (a.hi k ≤ p.1 ∨ p.2 ≤ a.hi k)

theorem bool_ext {a b : Bool} (h : a = true ↔ b = true) : a = b := by
  cases a <;> cases b <;> simp_all
theorem any_congr' {α : Type} {p q : α → Bool} {l : List α} (h : ∀ a ∈ l, p a = q a) : l.any p = l.any q := by
  induction l with
  | nil => rfl
  | cons a l ih => rw [List.any_cons, List.any_cons, h a (by simp), ih fun b hb => h b (List.mem_cons_of_mem _ hb)]

theorem cell_in {a : Bx} {p q r : Int × Int} {x y z : Int} (h0 : clearOf p 0 a) (h1 : clearOf q 1 a) (h2 : clearOf r 2 a) (hx : p.1 ≤ x ∧ x < p.2) (hy : q.1 ≤ y ∧ y < q.2) (hz : r.1 ≤ z ∧ z < r.2) :
    containsB a (cellX p q r) = inU a x y z := by
  apply bool_ext
  rw [contains_iff, inU_iff]
  obtain ⟨h00, h01⟩ := h0
  obtain ⟨h10, h11⟩ := h1
  obtain ⟨h20, h21⟩ := h2
  change a.lx ≤ p.1 ∨ p.2 ≤ a.lx at h00
  change a.hx ≤ p.1 ∨ p.2 ≤ a.hx at h01
  change a.ly ≤ q.1 ∨ q.2 ≤ a.ly at h10
  change a.hy ≤ q.1 ∨ q.2 ≤ a.hy at h11
  change a.lz ≤ r.1 ∨ r.2 ≤ a.lz at h20
  change a.hz ≤ r.1 ∨ r.2 ≤ a.hz at h21
  show (a.lx ≤ p.1 ∧ p.2 ≤ a.hx ∧ a.ly ≤ q.1 ∧ q.2 ≤ a.hy ∧ a.lz ≤ r.1 ∧ r.2 ≤ a.hz) ↔ _
  omega
theorem cell_open {a : Bx} {p q r : Int × Int} {x y z : Int} (h0 : clearOf p 0 a) (h1 : clearOf q 1 a) (h2 : clearOf r 2 a) (hx : p.1 ≤ x ∧ x < p.2) (hy : q.1 ≤ y ∧ y < q.2) (hz : r.1 ≤ z ∧ z < r.2) :
    opensB a (cellX p q r) = inU a x y z := by
  apply bool_ext
  rw [opens_iff, inU_iff]
  obtain ⟨h00, h01⟩ := h0
  obtain ⟨h10, h11⟩ := h1
  obtain ⟨h20, h21⟩ := h2
  change a.lx ≤ p.1 ∨ p.2 ≤ a.lx at h00
  change a.hx ≤ p.1 ∨ p.2 ≤ a.hx at h01
  change a.ly ≤ q.1 ∨ q.2 ≤ a.ly at h10
  change a.hy ≤ q.1 ∨ q.2 ≤ a.hy at h11
  change a.lz ≤ r.1 ∨ r.2 ≤ a.lz at h20
  change a.hz ≤ r.1 ∨ r.2 ≤ a.hz at h21
  show (p.1 < a.hx ∧ a.lx < p.2 ∧ q.1 < a.hy ∧ a.ly < q.2 ∧ r.1 < a.hz ∧ a.lz < r.2) ↔ _
  omega
theorem cell_sel {l m : List Bx} {p q r : Int × Int} {x y z : Int} (h : ∀ a, a ∈ l ∨ a ∈ m → clearOf p 0 a ∧ clearOf q 1 a ∧ clearOf r 2 a) (hx : p.1 ≤ x ∧ x < p.2) (hy : q.1 ≤ y ∧ y < q.2) (hz : r.1 ≤ z ∧ z < r.2) :
    selB l m (cellX p q r) = solU l m x y z := by
  unfold selB solU
  rw [any_congr' fun a ha => cell_in (h a (.inl ha)).1 (h a (.inl ha)).2.1 (h a (.inl ha)).2.2 hx hy hz, any_congr' fun a ha => cell_open (h a (.inr ha)).1 (h a (.inr ha)).2.1 (h a (.inr ha)).2.2 hx hy hz]

theorem sumL_sumI {α : Type} (f : α → Int → Int) (lo hi : Int) (l : List α) : sumL (fun a => sumI (f a) lo hi) l = sumI (fun x => sumL (fun a => f a x) l) lo hi := by
  induction l with
  | nil => simp only [sumL]; rw [sumI_zero]
  | cons a l ih => simp only [sumL]; rw [ih, sumI_plus]

/-- An axis' cuts: ascending, from lo to hi, and no end of a box lies strictly between two neighbours. -/
structure CutsOf (A : List Int) (k lo hi : Int) (all : List Bx) : Prop where
  asc : A.Pairwise (· < ·)
  ne : A ≠ []
  head : A.head ne = lo
  last : A.getLast ne = hi
  clear : ∀ p ∈ pairsL A, ∀ a ∈ all, clearOf p k a

theorem CutsOf.span {A : List Int} {k lo hi : Int} {all : List Bx} (h : CutsOf A k lo hi all) {p : Int × Int} (hp : p ∈ pairsL A) : lo ≤ p.1 ∧ p.1 < p.2 ∧ p.2 ≤ hi := by
  have := pairs_mem A h.asc p hp
  have h1 := head_le h.asc h.ne this.1
  have h2 := le_last h.asc h.ne this.2.1
  rw [h.head] at h1
  rw [h.last] at h2
  omega
theorem CutsOf.sum {A : List Int} {k lo hi : Int} {all : List Bx} (h : CutsOf A k lo hi all) (f : Int → Int) : sumL (fun p => sumI f p.1 p.2) (pairsL A) = sumI f lo hi := by
  rw [pairs_sum f A h.ne h.asc, h.head, h.last]
theorem CutsOf.le {A : List Int} {k lo hi : Int} {all : List Bx} (h : CutsOf A k lo hi all) : lo ≤ hi := by
  have := head_le h.asc h.ne (List.getLast_mem h.ne)
  rw [h.head, h.last] at this; exact this

section
variable {l m : List Bx} {H : Bx} {A0 A1 A2 : List Int}

def cellsOf (l m : List Bx) (A0 A1 A2 : List Int) : List Bx := (rowA (pairsL A0) (pairsL A1) (pairsL A2)).filter (selB l m)

theorem sum_rowA (f : Bx → Int) (P0 P1 P2 : List (Int × Int)) : sumL f (rowA P0 P1 P2) = sumL (fun p => sumL (fun q => sumL (fun r => f (cellX p q r)) P2) P1) P0 := by
  unfold rowA rowX rowY
  rw [sumL_flat]
  refine sumL_congr fun p _ => ?_
  rw [sumL_flat]
  refine sumL_congr fun q _ => ?_
  rw [sumL_map]
theorem mem_rowA {P0 P1 P2 : List (Int × Int)} {c : Bx} : c ∈ rowA P0 P1 P2 ↔ ∃ p ∈ P0, ∃ q ∈ P1, ∃ r ∈ P2, c = cellX p q r := by
  unfold rowA rowX rowY
  simp only [List.mem_flatMap, List.mem_map]
  constructor
  · rintro ⟨p, hp, q, hq, r, hr, e⟩; exact ⟨p, hp, q, hq, r, hr, e.symm⟩
  · rintro ⟨p, hp, q, hq, r, hr, e⟩; exact ⟨p, hp, q, hq, r, hr, e.symm⟩

/-- The sum over the parts of a solid of what a part counts in each of its columns, layer by layer. -/
theorem sum_cells (g : Int → Int) (h0 : CutsOf A0 0 H.lx H.hx (l ++ m)) (h1 : CutsOf A1 1 H.ly H.hy (l ++ m)) (h2 : CutsOf A2 2 H.lz H.hz (l ++ m)) :
    sumL (fun c => sumI g c.lx c.hx * areaB c) (cellsOf l m A0 A1 A2) = sumI (fun x => g x * sumI (fun y => sumI (fun z => indU l m x y z) H.lz H.hz) H.ly H.hy) H.lx H.hx := by
  unfold cellsOf
  rw [sumL_filter, sum_rowA, ← h0.sum]
  refine sumL_congr fun p hp => ?_
  have sp := h0.span hp
  have key : ∀ x, p.1 ≤ x → x < p.2 → sumL (fun q => sumL (fun r => if selB l m (cellX p q r) = true then (q.2 - q.1) * (r.2 - r.1) else 0) (pairsL A2)) (pairsL A1) = sumI (fun y => sumI (fun z => indU l m x y z) H.lz H.hz) H.ly H.hy := by
    intro x hx1 hx2
    rw [← h1.sum]
    refine sumL_congr fun q hq => ?_
    have sq := h1.span hq
    have inner : ∀ y, q.1 ≤ y → y < q.2 → sumL (fun r => if selB l m (cellX p q r) = true then r.2 - r.1 else 0) (pairsL A2) = sumI (fun z => indU l m x y z) H.lz H.hz := by
      intro y hy1 hy2
      rw [← h2.sum]
      refine sumL_congr fun r hr => ?_
      have sr := h2.span hr
      have hs : ∀ z, r.1 ≤ z → z < r.2 → indU l m x y z = b01 (selB l m (cellX p q r)) := fun z hz1 hz2 => by
        unfold indU
        rw [cell_sel (l := l) (m := m) (p := p) (q := q) (r := r) (fun a ha => ⟨h0.clear p hp a (List.mem_append.2 ha), h1.clear q hq a (List.mem_append.2 ha), h2.clear r hr a (List.mem_append.2 ha)⟩) ⟨hx1, hx2⟩ ⟨hy1, hy2⟩ ⟨hz1, hz2⟩]
      rw [sumI_congr hs, sumI_const _ (by omega)]
      by_cases hh : selB l m (cellX p q r) = true
      · rw [if_pos hh, hh, b01_true]; omega
      · rw [if_neg hh, (Bool.not_eq_true _).mp hh, b01_false]; omega
    have e : ∀ y, q.1 ≤ y → y < q.2 → sumI (fun z => indU l m x y z) H.lz H.hz = sumL (fun r => if selB l m (cellX p q r) = true then r.2 - r.1 else 0) (pairsL A2) := fun y a b => (inner y a b).symm
    rw [sumI_congr e, sumI_const _ (by omega)]
    rw [Int.mul_comm]
    have : ∀ (c : Int) (L : List (Int × Int)), sumL (fun r => if selB l m (cellX p q r) = true then c * (r.2 - r.1) else 0) L = c * sumL (fun r => if selB l m (cellX p q r) = true then r.2 - r.1 else 0) L := by
      intro c L
      induction L with
      | nil => simp [sumL]
      | cons a L ih =>
        simp only [sumL]
        rw [ih, Int.mul_add]
        congr 1
        split <;> simp
    exact this _ _
  have e : ∀ x, p.1 ≤ x → x < p.2 → g x * sumI (fun y => sumI (fun z => indU l m x y z) H.lz H.hz) H.ly H.hy = g x * sumL (fun q => sumL (fun r => if selB l m (cellX p q r) = true then (q.2 - q.1) * (r.2 - r.1) else 0) (pairsL A2)) (pairsL A1) := fun x a b => by rw [key x a b]
  rw [sumI_congr e]
  generalize hS : sumL (fun q => sumL (fun r => if selB l m (cellX p q r) = true then (q.2 - q.1) * (r.2 - r.1) else 0) (pairsL A2)) (pairsL A1) = S
  have hm : sumI (fun x => g x * S) p.1 p.2 = sumI g p.1 p.2 * S := by
    unfold sumI
    generalize (p.2 - p.1).toNat = n
    induction n with
    | zero => simp [sumN]
    | succ n ih => rw [sumN, sumN, ih, Int.add_mul]
  rw [hm, ← hS]
  have out : ∀ (c : Int) (L1 L2 : List (Int × Int)), sumL (fun q => sumL (fun r => if selB l m (cellX p q r) = true then c * areaB (cellX p q r) else 0) L2) L1 = c * sumL (fun q => sumL (fun r => if selB l m (cellX p q r) = true then (q.2 - q.1) * (r.2 - r.1) else 0) L2) L1 := by
    intro c L1 L2
    induction L1 with
    | nil => simp [sumL]
    | cons q L1 ih =>
      simp only [sumL]
      rw [ih, Int.mul_add]
      congr 1
      clear ih
      induction L2 with
      | nil => simp [sumL]
      | cons r L2 ih2 =>
        simp only [sumL]
        rw [ih2, Int.mul_add]
        congr 1
        split
        · rfl
        · simp
  exact out (sumI g p.1 p.2) (pairsL A1) (pairsL A2)

def secI (l m : List Bx) (H : Bx) (x : Int) : Int := sumI (fun y => sumI (fun z => indU l m x y z) H.lz H.hz) H.ly H.hy

theorem vol_cells (h0 : CutsOf A0 0 H.lx H.hx (l ++ m)) (h1 : CutsOf A1 1 H.ly H.hy (l ++ m)) (h2 : CutsOf A2 2 H.lz H.hz (l ++ m)) :
    sumL volB (cellsOf l m A0 A1 A2) = sum3 (indU l m) H := by
  have := sum_cells (l := l) (m := m) (H := H) (fun _ => 1) h0 h1 h2
  simp only [Int.one_mul] at this
  unfold sum3
  rw [← this]
  refine sumL_congr fun c hc => ?_
  obtain ⟨p, hp, q, hq, r, hr, rfl⟩ := mem_rowA.1 (List.mem_filter.1 hc).1
  rw [sumI_const _ (by have := h0.span hp; simp only [cellX]; omega), Int.one_mul]
  unfold volB areaB
  rw [Int.mul_assoc]

theorem sumI_pick (x0 lo hi : Int) : sumI (fun x => if x = x0 then 1 else 0) lo hi = if lo ≤ x0 ∧ x0 < hi then 1 else 0 := by
  by_cases h : lo ≤ x0 ∧ x0 < hi
  · rw [if_pos h, sumI_split h.1 (by omega), sumI_split (show x0 ≤ x0 + 1 by omega) (by omega), sumI_null fun x a b => if_neg (by omega), sumI_null (lo := x0 + 1) fun x a b => if_neg (by omega)]
    unfold sumI
    rw [show (x0 + 1 - x0).toNat = 1 by omega]
    simp [sumN]
  · rw [if_neg h, sumI_null fun x a b => if_neg (by omega)]

theorem sec_cells (x0 : Int) (h0 : CutsOf A0 0 H.lx H.hx (l ++ m)) (h1 : CutsOf A1 1 H.ly H.hy (l ++ m)) (h2 : CutsOf A2 2 H.lz H.hz (l ++ m)) :
    sumL (fun c => if c.lx ≤ x0 ∧ x0 < c.hx then areaB c else 0) (cellsOf l m A0 A1 A2) = if H.lx ≤ x0 ∧ x0 < H.hx then secI l m H x0 else 0 := by
  have := sum_cells (l := l) (m := m) (H := H) (fun x => if x = x0 then 1 else 0) h0 h1 h2
  have e : ∀ (c : Bx), sumI (fun x => if x = x0 then 1 else 0) c.lx c.hx * areaB c = if c.lx ≤ x0 ∧ x0 < c.hx then areaB c else 0 := fun c => by
    rw [sumI_pick]; split <;> simp
  rw [sumL_congr fun c _ => e c] at this
  rw [this]
  have e2 : ∀ x, (if x = x0 then (1 : Int) else 0) * sumI (fun y => sumI (fun z => indU l m x y z) H.lz H.hz) H.ly H.hy = if x = x0 then secI l m H x0 else 0 := fun x => by
    split
    · rename_i h; subst h; rw [Int.one_mul]; rfl
    · simp
  rw [sumI_congr fun x _ _ => e2 x]
  by_cases h : H.lx ≤ x0 ∧ x0 < H.hx
  · rw [if_pos h, sumI_split h.1 (by omega), sumI_split (show x0 ≤ x0 + 1 by omega) (by omega), sumI_null fun x a b => if_neg (by omega), sumI_null (lo := x0 + 1) fun x a b => if_neg (by omega)]
    unfold sumI
    rw [show (x0 + 1 - x0).toNat = 1 by omega]
    simp [sumN]
  · rw [if_neg h, sumI_null fun x a b => if_neg (by omega)]

theorem ind_bounds (x y z : Int) : 0 ≤ indU l m x y z ∧ indU l m x y z ≤ 1 := b01_bounds _
theorem sec_nonneg (x : Int) : 0 ≤ secI l m H x := sumI_nonneg fun _ _ _ => sumI_nonneg fun _ _ _ => (ind_bounds _ _ _).1
theorem sum3_nonneg {f : Int → Int → Int → Int} (h : ∀ x y z, 0 ≤ f x y z) (b : Bx) : 0 ≤ sum3 f b := sumI_nonneg fun _ _ _ => sumI_nonneg fun _ _ _ => sumI_nonneg fun _ _ _ => h _ _ _
theorem sum3_one {b : Bx} (hb : b.lx ≤ b.hx ∧ b.ly ≤ b.hy ∧ b.lz ≤ b.hz) : sum3 (fun _ _ _ => 1) b = volB b := by
  unfold sum3 volB
  simp only [sumI_const _ hb.2.2, sumI_const _ hb.2.1, sumI_const _ hb.1, Int.one_mul]
  generalize b.hx - b.lx = x
  generalize b.hy - b.ly = y
  generalize b.hz - b.lz = z
  rw [Int.mul_comm z y, Int.mul_comm (y * z) x, Int.mul_assoc]
theorem vol_le {b : Bx} (hb : b.lx ≤ b.hx ∧ b.ly ≤ b.hy ∧ b.lz ≤ b.hz) : sum3 (indU l m) b ≤ volB b := by
  rw [← sum3_one hb]; exact sum3_le fun x y z => (ind_bounds x y z).2
/-- A box' own unit cells, in any box that contains it. -/
theorem sum3_own {a b : Bx} (hc : containsB a b = true) (hb : b.lx ≤ b.hx ∧ b.ly ≤ b.hy ∧ b.lz ≤ b.hz) : sum3 (fun x y z => b01 (inU b x y z)) a = volB b := by
  rw [sum3_grow hc hb (fun x y z h => by
    have : inU b x y z = false := by
      cases hh : inU b x y z
      · rfl
      · have := inU_iff.1 hh; omega
    rw [this]; rfl), ← sum3_one hb]
  unfold sum3
  refine sumI_congr fun x hx1 hx2 => sumI_congr fun y hy1 hy2 => sumI_congr fun z hz1 hz2 => ?_
  show b01 (inU b x y z) = 1
  rw [inU_iff.2 ⟨hx1, hx2, hy1, hy2, hz1, hz2⟩]; rfl
/-- Beyond all boxes there is no concrete. -/
theorem ind_out {x y z : Int} (h : ∀ a ∈ l, containsB H a = true) (ho : x < H.lx ∨ H.hx ≤ x ∨ y < H.ly ∨ H.hy ≤ y ∨ z < H.lz ∨ H.hz ≤ z) : indU l m x y z = 0 := by
  have : solU l m x y z = false := by
    unfold solU
    rw [Bool.and_eq_false_iff]
    left
    rw [List.any_eq_false]
    intro a ha hin
    have h1 := inU_iff.1 hin
    have h2 := contains_iff.1 (h a ha)
    omega
  unfold indU; rw [this]; rfl
theorem sec_out {x : Int} (h : ∀ a ∈ l, containsB H a = true) (ho : x < H.lx ∨ H.hx ≤ x) : secI l m H x = 0 :=
  sumI_null fun _ _ _ => sumI_null fun _ _ _ => ind_out h (by omega)
theorem vol_wide {G : Bx} (h : ∀ a ∈ l, containsB H a = true) (hg : containsB G H = true) (hH : H.lx ≤ H.hx ∧ H.ly ≤ H.hy ∧ H.lz ≤ H.hz) : sum3 (indU l m) G = sum3 (indU l m) H :=
  sum3_grow hg hH fun _ _ _ ho => ind_out h ho

/-- A further hole takes away at most its own volume. -/
theorem hole_bounds (b : Bx) (x y z : Int) : indU l (m ++ [b]) x y z ≤ indU l m x y z ∧ indU l m x y z ≤ indU l (m ++ [b]) x y z + b01 (inU b x y z) := by
  unfold indU solU
  rw [List.any_append]
  generalize (l.any fun a => inU a x y z) = p
  generalize (m.any fun a => inU a x y z) = q
  simp only [List.any_cons, List.any_nil, Bool.or_false]
  generalize inU b x y z = r
  cases p <;> cases q <;> cases r <;> decide
theorem box_bounds (b : Bx) (x y z : Int) : indU l m x y z ≤ indU (l ++ [b]) m x y z ∧ indU (l ++ [b]) m x y z ≤ indU l m x y z + b01 (inU b x y z) := by
  unfold indU solU
  rw [List.any_append]
  generalize (l.any fun a => inU a x y z) = p
  generalize (m.any fun a => inU a x y z) = q
  simp only [List.any_cons, List.any_nil, Bool.or_false]
  generalize inU b x y z = r
  cases p <;> cases q <;> cases r <;> decide
/-- A hole beside the hull takes away nothing. -/
theorem hole_beside {b : Bx} (h : ∀ a ∈ l, containsB H a = true) (hg : 0 ≤ gapI H b) (x y z : Int) : indU l (m ++ [b]) x y z = indU l m x y z := by
  by_cases hb : inU b x y z = true
  · have h1 := inU_iff.1 hb
    have ho : x < H.lx ∨ H.hx ≤ x ∨ y < H.ly ∨ H.hy ≤ y ∨ z < H.lz ∨ H.hz ≤ z := by
      unfold gapI alongI at hg
      change 0 ≤ max (max (b.lx - H.hx) (H.lx - b.hx)) (max (max (b.ly - H.hy) (H.ly - b.hy)) (max (b.lz - H.hz) (H.lz - b.hz))) at hg
      omega
    rw [ind_out h ho, ind_out h ho]
  · unfold indU solU
    rw [List.any_append]
    simp only [List.any_cons, List.any_nil, Bool.or_false]
    rw [(Bool.not_eq_true _).mp hb, Bool.or_false]

def movedX (dx dy dz : Int) (b : Bx) : Bx := ⟨b.lx + dx, b.ly + dy, b.lz + dz, b.hx + dx, b.hy + dy, b.hz + dz⟩
theorem inU_moved (a : Bx) (dx dy dz x y z : Int) : inU (movedX dx dy dz a) x y z = inU a (x - dx) (y - dy) (z - dz) := by
  apply bool_ext
  rw [inU_iff, inU_iff]
  simp only [movedX]
  omega
theorem ind_moved (dx dy dz x y z : Int) : indU (l.map (movedX dx dy dz)) (m.map (movedX dx dy dz)) x y z = indU l m (x - dx) (y - dy) (z - dz) := by
  unfold indU solU
  simp only [List.any_map]
  have e : ∀ a, ((fun a => inU a x y z) ∘ movedX dx dy dz) a = inU a (x - dx) (y - dy) (z - dz) := fun a => inU_moved a dx dy dz x y z
  rw [any_congr' fun a _ => e a, any_congr' (l := m) fun a _ => e a]
theorem vol_moved (dx dy dz : Int) : sum3 (indU (l.map (movedX dx dy dz)) (m.map (movedX dx dy dz))) (movedX dx dy dz H) = sum3 (indU l m) H := by
  unfold sum3
  simp only [movedX, ind_moved]
  rw [sumI_shift (fun x => sumI (fun y => sumI (fun z => indU l m x (y - dy) (z - dz)) (H.lz + dz) (H.hz + dz)) (H.ly + dy) (H.hy + dy))]
  refine sumI_congr fun x _ _ => ?_
  rw [sumI_shift (fun y => sumI (fun z => indU l m x y (z - dz)) (H.lz + dz) (H.hz + dz))]
  refine sumI_congr fun y _ _ => ?_
  rw [sumI_shift (fun z => indU l m x y z)]
end

end Go.Proofs.YtmhhohancconaaaGreat

namespace Go.Proofs.YtmhhohancconaaaGreat

theorem join_left (a b : Bx) : (joinX a b).lx ≤ a.lx ∧ (joinX a b).ly ≤ a.ly ∧ (joinX a b).lz ≤ a.lz ∧ a.hx ≤ (joinX a b).hx ∧ a.hy ≤ (joinX a b).hy ∧ a.hz ≤ (joinX a b).hz := by
  simp only [joinX]; omega
theorem contains_trans {a b c : Bx} (h1 : containsB a b = true) (h2 : containsB b c = true) : containsB a c = true := by
  have h1 := contains_iff.1 h1
  have h2 := contains_iff.1 h2
  exact contains_iff.2 (by omega)
theorem contains_self (a : Bx) : containsB a a = true := contains_iff.2 (by omega)
theorem join_has (a b : Bx) : containsB (joinX a b) a = true ∧ containsB (joinX a b) b = true := by
  constructor <;> (apply contains_iff.2; simp only [joinX]; omega)
theorem fold_has (l : List Bx) (a : Bx) : containsB (l.foldl joinX a) a = true ∧ ∀ b ∈ l, containsB (l.foldl joinX a) b = true := by
  induction l generalizing a with
  | nil => exact ⟨contains_self a, fun b hb => by cases hb⟩
  | cons c l ih =>
    obtain ⟨h1, h2⟩ := ih (joinX a c)
    refine ⟨contains_trans h1 (join_has a c).1, fun b hb => ?_⟩
    rcases List.mem_cons.1 hb with e | e
    · subst e; exact contains_trans h1 (join_has a b).2
    · exact h2 b e
/-- An end of the hull is an end of one of the boxes. -/
theorem fold_ends (l : List Bx) (a : Bx) (k : Int) : (∃ b, (b = a ∨ b ∈ l) ∧ (l.foldl joinX a).lo k = b.lo k) ∧ ∃ b, (b = a ∨ b ∈ l) ∧ (l.foldl joinX a).hi k = b.hi k := by
  induction l generalizing a with
  | nil => exact ⟨⟨a, .inl rfl, rfl⟩, ⟨a, .inl rfl, rfl⟩⟩
  | cons c l ih =>
    obtain ⟨⟨b, hb, e⟩, ⟨b', hb', e'⟩⟩ := ih (joinX a c)
    have two : ((joinX a c).lo k = a.lo k ∨ (joinX a c).lo k = c.lo k) ∧ ((joinX a c).hi k = a.hi k ∨ (joinX a c).hi k = c.hi k) := by
      unfold Bx.lo Bx.hi joinX
      dsimp only
      split
      · omega
      · split <;> omega
    refine ⟨?_, ?_⟩
    · rcases hb with rfl | hb
      · rcases two.1 with h | h
        · exact ⟨a, .inl rfl, by rw [List.foldl_cons, e, h]⟩
        · exact ⟨c, .inr (by simp), by rw [List.foldl_cons, e, h]⟩
      · exact ⟨b, .inr (List.mem_cons_of_mem _ hb), e⟩
    · rcases hb' with rfl | hb'
      · rcases two.2 with h | h
        · exact ⟨a, .inl rfl, by rw [List.foldl_cons, e', h]⟩
        · exact ⟨c, .inr (by simp), by rw [List.foldl_cons, e', h]⟩
      · exact ⟨b', .inr (List.mem_cons_of_mem _ hb'), e'⟩
theorem hull_has {l : List Bx} {b : Bx} (hb : b ∈ l) : containsB (hullX l) b = true := by
  cases l with
  | nil => cases hb
  | cons a r => exact (fold_has (a :: r) a).2 b hb
theorem hull_ends {l : List Bx} (h : l ≠ []) (k : Int) : (∃ b ∈ l, (hullX l).lo k = b.lo k) ∧ ∃ b ∈ l, (hullX l).hi k = b.hi k := by
  cases l with
  | nil => exact absurd rfl h
  | cons a r =>
    obtain ⟨⟨b, hb, e⟩, ⟨b', hb', e'⟩⟩ := fold_ends (a :: r) a k
    refine ⟨⟨b, ?_, e⟩, ⟨b', ?_, e'⟩⟩
    · rcases hb with rfl | hb
      · simp
      · exact hb
    · rcases hb' with rfl | hb'
      · simp
      · exact hb'

def thickB (b : Bx) : Bool := validB b && decide (b.lx < b.hx ∧ b.ly < b.hy ∧ b.lz < b.hz)
theorem thick_iff {b : Bx} : thickB b = true ↔ validB b = true ∧ (b.lx < b.hx ∧ b.ly < b.hy ∧ b.lz < b.hz) := by
  unfold thickB; rw [Bool.and_eq_true, decide_eq_true_iff]
theorem all_valid {l : List Bx} (h : l.all thickB = true) : l.all validB = true := by
  rw [List.all_eq_true] at h ⊢
  exact fun x hx => (thick_iff.1 (h x hx)).1
theorem thick_axis {b : Bx} (h : thickB b = true) (k : Int) : b.lo k < b.hi k := by
  have := (thick_iff.1 h).2
  unfold Bx.lo Bx.hi
  split
  · omega
  · split <;> omega
theorem valid_axis {b : Bx} (h : validB b = true) (k : Int) : -1048576 ≤ b.lo k ∧ b.lo k ≤ b.hi k ∧ b.hi k ≤ 1048576 := by
  have := valid_iff.1 h
  unfold Bx.lo Bx.hi
  split
  · omega
  · split <;> omega
theorem contains_axis {a b : Bx} (h : containsB a b = true) (k : Int) : a.lo k ≤ b.lo k ∧ b.hi k ≤ a.hi k := by
  have := contains_iff.1 h
  unfold Bx.lo Bx.hi
  split
  · omega
  · split <;> omega
theorem hull_thick {l : List Bx} (h : l.all thickB = true) (h0 : l ≠ []) : thickB (hullX l) = true := by
  obtain ⟨a, ha⟩ := List.exists_mem_of_ne_nil l h0
  have hh := List.all_eq_true.1 h
  have hc := contains_iff.1 (hull_has ha)
  have ht := thick_iff.1 (hh a ha)
  have key : ∀ k, -1048576 ≤ (hullX l).lo k ∧ (hullX l).hi k ≤ 1048576 := fun k => by
    obtain ⟨⟨b, hb, e⟩, ⟨b', hb', e'⟩⟩ := hull_ends h0 k
    rw [e, e']
    have h1 := valid_axis (thick_iff.1 (hh b hb)).1 k
    have h2 := valid_axis (thick_iff.1 (hh b' hb')).1 k
    omega
  have k0 := key 0
  have k1 := key 1
  have k2 := key 2
  change -1048576 ≤ (hullX l).lx ∧ (hullX l).hx ≤ 1048576 at k0
  change -1048576 ≤ (hullX l).ly ∧ (hullX l).hy ≤ 1048576 at k1
  change -1048576 ≤ (hullX l).lz ∧ (hullX l).hz ≤ 1048576 at k2
  rw [thick_iff, valid_iff]
  omega

/-- A solid contains a box. -/
def containsS (l m : List Bx) (b : Bx) : Bool := !(m.any fun h => opensB h b) && coversB l b
def solidB (l m : List Bx) : Bool := decide (1 ≤ l.length) && decide (l.length ≤ 20) && decide (m.length ≤ 20) && l.all thickB && m.all thickB
theorem solid_iff {l m : List Bx} : solidB l m = true ↔ (1 ≤ l.length ∧ l.length ≤ 20) ∧ m.length ≤ 20 ∧ l.all thickB = true ∧ m.all thickB = true := by
  unfold solidB; simp only [Bool.and_eq_true, decide_eq_true_iff]; simp only [and_assoc]

theorem covers_sub {l : List Bx} {b c : Bx} (hb : b.lx ≤ b.hx ∧ b.ly ≤ b.hy ∧ b.lz ≤ b.hz) (hc : c.lx ≤ c.hx ∧ c.ly ≤ c.hy ∧ c.lz ≤ c.hz) (h : containsB b c = true) (h2 : coversB l b = true) : coversB l c = true := by
  rw [covers_iff hb.1 hb.2.1 hb.2.2] at h2
  rw [covers_iff hc.1 hc.2.1 hc.2.2]
  have := contains_iff.1 h
  intro P Q R ⟨hP, hQ, hR⟩
  exact h2 P Q R ⟨by omega, by omega, by omega⟩
theorem opens_sub {h b c : Bx} (hc : containsB b c = true) (ho : opensB h c = true) : opensB h b = true := by
  have := contains_iff.1 hc
  have := opens_iff.1 ho
  exact opens_iff.2 (by omega)
theorem containsS_iff {l m : List Bx} {b : Bx} : containsS l m b = true ↔ (∀ h ∈ m, opensB h b = false) ∧ coversB l b = true := by
  unfold containsS
  rw [Bool.and_eq_true, Bool.not_eq_true', List.any_eq_false]
  constructor
  · intro ⟨h1, h2⟩; exact ⟨fun h hh => by simpa using h1 h hh, h2⟩
  · intro ⟨h1, h2⟩; exact ⟨fun h hh => by simpa using h1 h hh, h2⟩
/-- What is contained in a box that a solid contains is contained too. -/
theorem containsS_sub {l m : List Bx} {b c : Bx} (hb : b.lx ≤ b.hx ∧ b.ly ≤ b.hy ∧ b.lz ≤ b.hz) (hc : c.lx ≤ c.hx ∧ c.ly ≤ c.hy ∧ c.lz ≤ c.hz) (h : containsB b c = true) (h2 : containsS l m b = true) : containsS l m c = true := by
  rw [containsS_iff] at h2 ⊢
  refine ⟨fun x hx => ?_, covers_sub hb hc h h2.2⟩
  cases ho : opensB x c
  · rfl
  · have := h2.1 x hx
    rw [opens_sub h ho] at this; cases this
/-- A part that is chosen is contained. -/
theorem sel_contains {l m : List Bx} {c : Bx} (hc : c.lx ≤ c.hx ∧ c.ly ≤ c.hy ∧ c.lz ≤ c.hz) (h : selB l m c = true) : containsS l m c = true := by
  unfold selB at h
  rw [Bool.and_eq_true, Bool.not_eq_true'] at h
  obtain ⟨h1, h2⟩ := h
  obtain ⟨a, ha, hac⟩ := List.any_eq_true.1 h1
  unfold containsS
  rw [h2, covers_iff hc.1 hc.2.1 hc.2.2 |>.2]
  · rfl
  · intro P Q R ⟨hP, hQ, hR⟩
    have := contains_iff.1 hac
    exact ⟨a, ha, by omega, by omega, by omega⟩
theorem cell_ord {A0 A1 A2 : List Int} (h0 : A0.Pairwise (· < ·)) (h1 : A1.Pairwise (· < ·)) (h2 : A2.Pairwise (· < ·)) {c : Bx} (h : c ∈ rowA (pairsL A0) (pairsL A1) (pairsL A2)) : c.lx < c.hx ∧ c.ly < c.hy ∧ c.lz < c.hz := by
  obtain ⟨p, hp, q, hq, r, hr, rfl⟩ := mem_rowA.1 h
  have := pairs_mem A0 h0 p hp
  have := pairs_mem A1 h1 q hq
  have := pairs_mem A2 h2 r hr
  simp only [cellX]; omega

theorem pairs_apart {A : List Int} (hA : A.Pairwise (· < ·)) : (pairsL A).Pairwise (fun p q => p.2 ≤ q.1) := by
  induction A with
  | nil => exact List.Pairwise.nil
  | cons a A ih =>
    cases A with
    | nil => exact List.Pairwise.nil
    | cons b r =>
      rw [List.pairwise_cons] at hA
      rw [pairsL, List.pairwise_cons]
      refine ⟨fun p hp => ?_, ih hA.2⟩
      have := (pairs_mem _ hA.2 p hp).1
      rcases List.mem_cons.1 this with e | e
      · simp only; omega
      · have := (List.pairwise_cons.1 hA.2).1 _ e; simp only; omega
theorem gap_of {a b : Bx} (h : a.hx ≤ b.lx ∨ b.hx ≤ a.lx ∨ a.hy ≤ b.ly ∨ b.hy ≤ a.ly ∨ a.hz ≤ b.lz ∨ b.hz ≤ a.lz) : 0 ≤ gapI a b := by
  unfold gapI alongI
  show 0 ≤ max (max (b.lx - a.hx) (a.lx - b.hx)) (max (max (b.ly - a.hy) (a.ly - b.hy)) (max (b.lz - a.hz) (a.lz - b.hz)))
  omega
/-- Parts have no inner points in common. -/
theorem cells_apart {A0 A1 A2 : List Int} (h0 : A0.Pairwise (· < ·)) (h1 : A1.Pairwise (· < ·)) (h2 : A2.Pairwise (· < ·)) : (rowA (pairsL A0) (pairsL A1) (pairsL A2)).Pairwise (fun c d => 0 ≤ gapI d c) := by
  unfold rowA rowX rowY
  rw [List.pairwise_flatMap]
  refine ⟨fun p _ => ?_, ?_⟩
  · rw [List.pairwise_flatMap]
    refine ⟨fun q _ => ?_, ?_⟩
    · rw [List.pairwise_map]
      exact (pairs_apart h2).imp fun {a b} h => gap_of (by simp only [cellX]; omega)
    · refine (pairs_apart h1).imp fun {a b} h => ?_
      intro c hc d hd
      obtain ⟨_, _, rfl⟩ := List.mem_map.1 hc
      obtain ⟨_, _, rfl⟩ := List.mem_map.1 hd
      exact gap_of (by simp only [cellX]; omega)
  · refine (pairs_apart h0).imp fun {a b} h => ?_
    intro c hc d hd
    obtain ⟨_, _, hc⟩ := List.mem_flatMap.1 hc
    obtain ⟨_, _, hd⟩ := List.mem_flatMap.1 hd
    obtain ⟨_, _, rfl⟩ := List.mem_map.1 hc
    obtain ⟨_, _, rfl⟩ := List.mem_map.1 hd
    exact gap_of (by simp only [cellX]; omega)

def halfLo (b : Bx) (k p : Int) : Bx := if k = 0 then ⟨b.lx, b.ly, b.lz, p, b.hy, b.hz⟩ else if k = 1 then ⟨b.lx, b.ly, b.lz, b.hx, p, b.hz⟩ else ⟨b.lx, b.ly, b.lz, b.hx, b.hy, p⟩
def halfHi (b : Bx) (k p : Int) : Bx := if k = 0 then ⟨p, b.ly, b.lz, b.hx, b.hy, b.hz⟩ else if k = 1 then ⟨b.lx, p, b.lz, b.hx, b.hy, b.hz⟩ else ⟨b.lx, b.ly, p, b.hx, b.hy, b.hz⟩
theorem half_in {b : Bx} {k p : Int} (hb : b.lx ≤ b.hx ∧ b.ly ≤ b.hy ∧ b.lz ≤ b.hz) (hp : b.lo k ≤ p ∧ p ≤ b.hi k) :
    ((halfLo b k p).lx ≤ (halfLo b k p).hx ∧ (halfLo b k p).ly ≤ (halfLo b k p).hy ∧ (halfLo b k p).lz ≤ (halfLo b k p).hz) ∧ ((halfHi b k p).lx ≤ (halfHi b k p).hx ∧ (halfHi b k p).ly ≤ (halfHi b k p).hy ∧ (halfHi b k p).lz ≤ (halfHi b k p).hz) ∧
    containsB b (halfLo b k p) = true ∧ containsB b (halfHi b k p) = true := by
  rw [contains_iff, contains_iff]
  unfold Bx.lo Bx.hi at hp
  unfold halfLo halfHi
  by_cases h0 : k = 0
  · simp only [if_pos h0] at *; omega
  · by_cases h1 : k = 1
    · simp only [if_neg h0, if_pos h1] at *; omega
    · simp only [if_neg h0, if_neg h1] at *; omega
theorem opens_halves {h b : Bx} {k p : Int} (ht : h.lx < h.hx ∧ h.ly < h.hy ∧ h.lz < h.hz) (hp : b.lo k ≤ p ∧ p ≤ b.hi k) :
    opensB h b = (opensB h (halfLo b k p) || opensB h (halfHi b k p)) := by
  apply bool_ext
  rw [Bool.or_eq_true, opens_iff, opens_iff, opens_iff]
  unfold Bx.lo Bx.hi at hp
  unfold halfLo halfHi
  by_cases h0 : k = 0
  · simp only [if_pos h0] at *; omega
  · by_cases h1 : k = 1
    · simp only [if_neg h0, if_pos h1] at *; omega
    · simp only [if_neg h0, if_neg h1] at *; omega
theorem containsS_halves {l m : List Bx} {b : Bx} {k p : Int} (hm : m.all thickB = true) (hb : b.lx ≤ b.hx ∧ b.ly ≤ b.hy ∧ b.lz ≤ b.hz) (hp : b.lo k ≤ p ∧ p ≤ b.hi k) :
    containsS l m b = (containsS l m (halfLo b k p) && containsS l m (halfHi b k p)) := by
  obtain ⟨o1, o2, c1, c2⟩ := half_in hb hp
  apply bool_ext
  rw [Bool.and_eq_true]
  constructor
  · intro h
    exact ⟨containsS_sub hb o1 c1 h, containsS_sub hb o2 c2 h⟩
  · intro ⟨h1, h2⟩
    rw [containsS_iff] at h1 h2 ⊢
    refine ⟨fun x hx => ?_, ?_⟩
    · rw [opens_halves (thick_iff.1 (List.all_eq_true.1 hm x hx)).2 hp, h1.1 x hx, h2.1 x hx]; rfl
    · rw [covers_iff hb.1 hb.2.1 hb.2.2]
      have k1 := h1.2
      have k2 := h2.2
      rw [covers_iff o1.1 o1.2.1 o1.2.2] at k1
      rw [covers_iff o2.1 o2.2.1 o2.2.2] at k2
      intro P Q R hin
      by_cases hc : inB (halfLo b k p) P Q R
      · exact k1 P Q R hc
      · refine k2 P Q R ?_
        unfold inB at *
        unfold Bx.lo Bx.hi at hp
        unfold halfLo halfHi at *
        by_cases h0 : k = 0
        · simp only [if_pos h0] at *; omega
        · by_cases h1 : k = 1
          · simp only [if_neg h0, if_pos h1] at *; omega
          · simp only [if_neg h0, if_neg h1] at *; omega
/-- A point of a part that is chosen is in the concrete. -/
theorem sel_point {l m : List Bx} {c : Bx} {x y z : Int} (hc : c.lx ≤ c.hx ∧ c.ly ≤ c.hy ∧ c.lz ≤ c.hz) (h : selB l m c = true) (hp : containsB c (ptX x y z) = true) : containsS l m (ptX x y z) = true :=
  containsS_sub hc ⟨Int.le_refl _, Int.le_refl _, Int.le_refl _⟩ hp (sel_contains hc h)

end Go.Proofs.YtmhhohancconaaaGreat

namespace Go.Proofs.YtmhhohancconaaaGreat

/-- The ends of a box, along an axis, that lie in a span. -/
def within2 (lo hi : Int) (k : Int) (x : Bx) : List Int := (if lo ≤ x.lo k ∧ x.lo k ≤ hi then [x.lo k] else []) ++ (if lo ≤ x.hi k ∧ x.hi k ≤ hi then [x.hi k] else [])
def collL (all : List Bx) (H : Bx) (k : Int) : List Int := all.flatMap (within2 (H.lo k) (H.hi k) k)
theorem mem_within2 {lo hi k : Int} {x : Bx} {n : Int} : n ∈ within2 lo hi k x ↔ (lo ≤ n ∧ n ≤ hi) ∧ (n = x.lo k ∨ n = x.hi k) := by
  unfold within2
  rw [List.mem_append]
  constructor
  · rintro (h | h)
    · split at h
      · rename_i hc; rw [List.mem_singleton.1 h]; exact ⟨hc, .inl rfl⟩
      · simp at h
    · split at h
      · rename_i hc; rw [List.mem_singleton.1 h]; exact ⟨hc, .inr rfl⟩
      · simp at h
  · rintro ⟨hc, rfl | rfl⟩
    · exact .inl (by rw [if_pos hc]; simp)
    · exact .inr (by rw [if_pos hc]; simp)
theorem mem_collL {all : List Bx} {H : Bx} {k n : Int} : n ∈ collL all H k ↔ ∃ x ∈ all, (H.lo k ≤ n ∧ n ≤ H.hi k) ∧ (n = x.lo k ∨ n = x.hi k) := by
  unfold collL
  simp only [List.mem_flatMap, mem_within2]
theorem within2_length (lo hi k : Int) (x : Bx) : (within2 lo hi k x).length ≤ 2 := by
  unfold within2
  rw [List.length_append]
  split <;> split <;> simp
theorem collL_length (all : List Bx) (H : Bx) (k : Int) : (collL all H k).length ≤ 2 * all.length := by
  unfold collL
  induction all with
  | nil => simp
  | cons a l ih => rw [List.flatMap_cons, List.length_append, List.length_cons]; have := within2_length (H.lo k) (H.hi k) k a; omega
theorem collL_take (all : List Bx) (H : Bx) (k : Int) (j : Nat) (h : j < all.length) : collL (all.take (j + 1)) H k = collL (all.take j) H k ++ within2 (H.lo k) (H.hi k) k all[j] := by
  unfold collL; rw [List.take_succ_eq_append_getElem h, List.flatMap_append]; simp

theorem mem_cutsB {all : List Bx} {H : Bx} {k n : Int} : n ∈ cutsB all H k ↔ n = H.lo k ∨ n = H.hi k ∨ ∃ x ∈ all, (H.lo k < n ∧ n < H.hi k) ∧ (n = x.lo k ∨ n = x.hi k) := by
  unfold cutsB; rw [(cutsL_spec _).1, mem_atL]
theorem cutsB_asc (all : List Bx) (H : Bx) (k : Int) : (cutsB all H k).Pairwise (· < ·) := (cutsL_spec _).2

theorem cuts_same {l m : List Bx} (h : l.all thickB = true) (h0 : l ≠ []) (k : Int) : cutsL (collL (l ++ m) (hullX l) k) = cutsB (l ++ m) (hullX l) k := by
  refine asc_ext (cutsL_spec _).2 (cutsB_asc _ _ _) fun n => ?_
  rw [(cutsL_spec _).1, mem_collL, mem_cutsB]
  obtain ⟨⟨b, hb, e⟩, ⟨b', hb', e'⟩⟩ := hull_ends h0 k
  have ht := thick_axis (hull_thick h h0) k
  constructor
  · rintro ⟨x, hx, hc, hn⟩
    by_cases h1 : n = (hullX l).lo k
    · exact .inl h1
    · by_cases h2 : n = (hullX l).hi k
      · exact .inr (.inl h2)
      · exact .inr (.inr ⟨x, hx, by omega, hn⟩)
  · rintro (h1 | h1 | ⟨x, hx, hc, hn⟩)
    · exact ⟨b, List.mem_append_left _ hb, by omega, .inl (by rw [h1, e])⟩
    · exact ⟨b', List.mem_append_left _ hb', by omega, .inr (by rw [h1, e'])⟩
    · exact ⟨x, hx, by omega, hn⟩

theorem head_eq {A : List Int} (hA : A.Pairwise (· < ·)) (h : A ≠ []) {lo : Int} (h1 : lo ∈ A) (h2 : ∀ x ∈ A, lo ≤ x) : A.head h = lo := by
  have := head_le hA h h1
  have := h2 _ (List.head_mem h)
  omega
theorem last_eq {A : List Int} (hA : A.Pairwise (· < ·)) (h : A ≠ []) {hi : Int} (h1 : hi ∈ A) (h2 : ∀ x ∈ A, x ≤ hi) : A.getLast h = hi := by
  have := le_last hA h h1
  have := h2 _ (List.getLast_mem h)
  omega
theorem cutsOf {all : List Bx} {H : Bx} (k : Int) (hH : H.lo k ≤ H.hi k) : CutsOf (cutsB all H k) k (H.lo k) (H.hi k) all := by
  have hlo : H.lo k ∈ cutsB all H k := mem_cutsB.2 (.inl rfl)
  have hhi : H.hi k ∈ cutsB all H k := mem_cutsB.2 (.inr (.inl rfl))
  have hin : ∀ x ∈ cutsB all H k, H.lo k ≤ x ∧ x ≤ H.hi k := fun x hx => by
    rcases mem_cutsB.1 hx with h | h | ⟨_, _, h, _⟩ <;> omega
  have hne : cutsB all H k ≠ [] := List.ne_nil_of_mem hlo
  refine ⟨cutsB_asc _ _ _, hne, head_eq (cutsB_asc _ _ _) hne hlo fun x hx => (hin x hx).1, last_eq (cutsB_asc _ _ _) hne hhi fun x hx => (hin x hx).2, fun p hp a ha => ?_⟩
  have hp := pairs_mem _ (cutsB_asc all H k) p hp
  have h1 := hin _ hp.1
  have h2 := hin _ hp.2.1
  have key : ∀ n, (n = a.lo k ∨ n = a.hi k) → n ≤ p.1 ∨ p.2 ≤ n := fun n hn => by
    by_cases hc : H.lo k < n ∧ n < H.hi k
    · exact hp.2.2.2 n (mem_cutsB.2 (.inr (.inr ⟨a, ha, hc, hn⟩)))
    · omega
  exact ⟨key _ (.inl rfl), key _ (.inr rfl)⟩
theorem parts_pairs {l : List Bx} {b : Bx} {k : Int} (h : b.lo k < b.hi k) : partsL l b k = pairsL (cutsB l b k) := by
  unfold partsL; rw [if_neg (by omega)]; rfl

/-- The parts of a solid. -/
def cellsL (l m : List Bx) : List Bx := cellsOf l m (cutsB (l ++ m) (hullX l) 0) (cutsB (l ++ m) (hullX l) 1) (cutsB (l ++ m) (hullX l) 2)
def volI (l m : List Bx) : Int := sumL volB (cellsL l m)
def sectI (l m : List Bx) (x : Int) : Int := sumL (fun c => if c.lx ≤ x ∧ x < c.hx then areaB c else 0) (cellsL l m)
theorem cutsOf0 (l m : List Bx) (h : l.all thickB = true) (h0 : l ≠ []) : CutsOf (cutsB (l ++ m) (hullX l) 0) 0 (hullX l).lx (hullX l).hx (l ++ m) := cutsOf 0 (Int.le_of_lt (thick_axis (hull_thick h h0) 0))
theorem cutsOf1 (l m : List Bx) (h : l.all thickB = true) (h0 : l ≠ []) : CutsOf (cutsB (l ++ m) (hullX l) 1) 1 (hullX l).ly (hullX l).hy (l ++ m) := cutsOf 1 (Int.le_of_lt (thick_axis (hull_thick h h0) 1))
theorem cutsOf2 (l m : List Bx) (h : l.all thickB = true) (h0 : l ≠ []) : CutsOf (cutsB (l ++ m) (hullX l) 2) 2 (hullX l).lz (hullX l).hz (l ++ m) := cutsOf 2 (Int.le_of_lt (thick_axis (hull_thick h h0) 2))
theorem ord_of {b : Bx} (h : thickB b = true) : b.lx ≤ b.hx ∧ b.ly ≤ b.hy ∧ b.lz ≤ b.hz := by have := (thick_iff.1 h).2; omega
theorem vol_eq {l m : List Bx} (h : l.all thickB = true) (h0 : l ≠ []) : volI l m = sum3 (indU l m) (hullX l) := vol_cells (cutsOf0 l m h h0) (cutsOf1 l m h h0) (cutsOf2 l m h h0)
theorem sect_eq {l m : List Bx} (h : l.all thickB = true) (h0 : l ≠ []) (x : Int) : sectI l m x = secI l m (hullX l) x := by
  unfold sectI cellsL
  rw [sec_cells x (cutsOf0 l m h h0) (cutsOf1 l m h h0) (cutsOf2 l m h h0)]
  split
  · rfl
  · rw [sec_out (fun a ha => hull_has ha) (by omega)]
theorem cells_mem {l m : List Bx} {c : Bx} (hc : c ∈ cellsL l m) : (c.lx < c.hx ∧ c.ly < c.hy ∧ c.lz < c.hz) ∧ selB l m c = true := by
  unfold cellsL cellsOf at hc
  have := List.mem_filter.1 hc
  exact ⟨cell_ord (cutsB_asc _ _ _) (cutsB_asc _ _ _) (cutsB_asc _ _ _) this.1, this.2⟩
theorem cells_hull {l m : List Bx} (h : l.all thickB = true) (h0 : l ≠ []) {c : Bx} (hc : c ∈ cellsL l m) : containsB (hullX l) c = true := by
  unfold cellsL cellsOf at hc
  obtain ⟨p, hp, q, hq, r, hr, rfl⟩ := mem_rowA.1 (List.mem_filter.1 hc).1
  have s0 := (cutsOf0 l m h h0).span hp
  have s1 := (cutsOf1 l m h h0).span hq
  have s2 := (cutsOf2 l m h h0).span hr
  rw [contains_iff]
  simp only [cellX]; omega
theorem cells_valid {l m : List Bx} (h : l.all thickB = true) (h0 : l ≠ []) {c : Bx} (hc : c ∈ cellsL l m) : thickB c = true := by
  have h1 := valid_iff.1 (thick_iff.1 (hull_thick h h0)).1
  have h2 := contains_iff.1 (cells_hull h h0 hc)
  have h3 := (cells_mem hc).1
  rw [thick_iff, valid_iff]; omega
theorem cells_pair (l m : List Bx) : (cellsL l m).Pairwise (fun c d => 0 ≤ gapI d c) := (cells_apart (cutsB_asc _ _ _) (cutsB_asc _ _ _) (cutsB_asc _ _ _)).filter _
theorem vol_nonneg {c : Bx} (h : c.lx ≤ c.hx ∧ c.ly ≤ c.hy ∧ c.lz ≤ c.hz) : 0 ≤ volB c := Int.mul_nonneg (Int.mul_nonneg (by omega) (by omega)) (by omega)
theorem area_nonneg {c : Bx} (h : c.lx ≤ c.hx ∧ c.ly ≤ c.hy ∧ c.lz ≤ c.hz) : 0 ≤ areaB c := Int.mul_nonneg (by omega) (by omega)
theorem volI_nonneg (l m : List Bx) : 0 ≤ volI l m := sumL_nonneg fun c hc => vol_nonneg (by have := (cells_mem hc).1; omega)
theorem volB_le {b : Bx} {n : Int} (h : b.lx ≤ b.hx ∧ b.ly ≤ b.hy ∧ b.lz ≤ b.hz) (h0 : 0 ≤ n) (hx : b.hx - b.lx ≤ n) (hy : b.hy - b.ly ≤ n) (hz : b.hz - b.lz ≤ n) : volB b ≤ n * n * n :=
  Int.mul_le_mul (Int.mul_le_mul hx hy (by omega) h0) hz (by omega) (Int.mul_nonneg h0 h0)
/-- The volume is at most 2^63. -/
theorem volI_le {l m : List Bx} (h : l.all thickB = true) (h0 : l ≠ []) : volI l m ≤ 9223372036854775808 := by
  rw [vol_eq h h0]
  have ht := hull_thick h h0
  have h1 := valid_iff.1 (thick_iff.1 ht).1
  refine Int.le_trans (vol_le (ord_of ht)) (Int.le_trans (volB_le (n := 2097152) (ord_of ht) (by omega) (by omega) (by omega) (by omega)) (by decide))
end Go.Proofs.YtmhhohancconaaaGreat

namespace Go.Proofs.YtmhhohancconaaaGreat

theorem inU_clear {a : Bx} {p : Int × Int} {x y z : Int} (h : clearOf p 0 a) (hx : p.1 ≤ x ∧ x < p.2) : inU a x y z = inU a p.1 y z := by
  apply bool_ext
  rw [inU_iff, inU_iff]
  obtain ⟨h0, h1⟩ := h
  change a.lx ≤ p.1 ∨ p.2 ≤ a.lx at h0
  change a.hx ≤ p.1 ∨ p.2 ≤ a.hx at h1
  omega
theorem sec_clear {l m : List Bx} {H : Bx} {p : Int × Int} {x : Int} (h : ∀ a ∈ l ++ m, clearOf p 0 a) (hx : p.1 ≤ x ∧ x < p.2) : secI l m H x = secI l m H p.1 := by
  unfold secI indU solU
  refine sumI_congr fun y _ _ => sumI_congr fun z _ _ => ?_
  rw [any_congr' (l := l) fun a ha => inU_clear (h a (List.mem_append_left _ ha)) hx, any_congr' (l := m) fun a ha => inU_clear (h a (List.mem_append_right _ ha)) hx]

/-- All X at which the sides of boxes and holes lie. -/
def atX (l m : List Bx) : List Int := cutsL (endsL (l ++ m) 0)
theorem mem_atX {l m : List Bx} {n : Int} : n ∈ atX l m ↔ ∃ a ∈ l ++ m, n = a.lx ∨ n = a.hx := by
  unfold atX; rw [(cutsL_spec _).1, mem_endsL]; rfl
theorem atX_asc (l m : List Bx) : (atX l m).Pairwise (· < ·) := (cutsL_spec _).2
theorem atX_clear {l m : List Bx} {p : Int × Int} (hp : p ∈ pairsL (atX l m)) : ∀ a ∈ l ++ m, clearOf p 0 a := by
  intro a ha
  have := (pairs_mem _ (atX_asc l m) p hp).2.2.2
  exact ⟨this _ (mem_atX.2 ⟨a, ha, .inl rfl⟩), this _ (mem_atX.2 ⟨a, ha, .inr rfl⟩)⟩
theorem slices_same {l m : List Bx} (h : l.all thickB = true) (h0 : l ≠ []) {p : Int × Int} (hp : p ∈ pairsL (atX l m)) : sectI l m (p.2 - 1) = sectI l m p.1 := by
  have hm := (pairs_mem _ (atX_asc l m) p hp).2.2.1
  rw [sect_eq h h0, sect_eq h h0, sec_clear (atX_clear hp) ⟨by omega, by omega⟩]
theorem slices_nonneg {l m : List Bx} (h : l.all thickB = true) (h0 : l ≠ []) (x : Int) : 0 ≤ sectI l m x := by rw [sect_eq h h0]; exact sec_nonneg x
theorem slices_out {l m : List Bx} (h : l.all thickB = true) (h0 : l ≠ []) (x : Int) (hx : x < (hullX l).lx ∨ (hullX l).hx ≤ x) : sectI l m x = 0 := by
  rw [sect_eq h h0, sec_out (fun a ha => hull_has ha) hx]
theorem slices_sum {l m : List Bx} (h : l.all thickB = true) (h0 : l ≠ []) : sumL (fun p => sectI l m p.1 * (p.2 - p.1)) (pairsL (atX l m)) = volI l m := by
  have hne : atX l m ≠ [] := by
    obtain ⟨a, ha⟩ := List.exists_mem_of_ne_nil l h0
    exact List.ne_nil_of_mem (mem_atX.2 ⟨a, List.mem_append_left _ ha, .inl rfl⟩)
  have e : ∀ p ∈ pairsL (atX l m), sectI l m p.1 * (p.2 - p.1) = sumI (secI l m (hullX l)) p.1 p.2 := fun p hp => by
    have hm := (pairs_mem _ (atX_asc l m) p hp).2.2.1
    rw [sumI_congr fun x a b => sec_clear (l := l) (m := m) (atX_clear hp) ⟨a, b⟩, sumI_const _ (by omega), sect_eq h h0]
  rw [sumL_congr e, pairs_sum _ _ hne (atX_asc l m), vol_eq h h0]
  obtain ⟨⟨b, hb, e1⟩, ⟨b', hb', e2⟩⟩ := hull_ends h0 0
  change (hullX l).lx = b.lx at e1
  change (hullX l).hx = b'.hx at e2
  have k1 := head_le (atX_asc l m) hne (mem_atX.2 ⟨b, List.mem_append_left _ hb, .inl rfl⟩)
  have k2 := le_last (atX_asc l m) hne (mem_atX.2 ⟨b', List.mem_append_left _ hb', .inr rfl⟩)
  exact sumI_grow (by omega) (ord_of (hull_thick h h0)).1 (by omega) fun x _ _ hx => sec_out (fun a ha => hull_has ha) hx

def bigX : Bx := ⟨-1048576, -1048576, -1048576, 1048576, 1048576, 1048576⟩
theorem big_has {b : Bx} (h : validB b = true) : containsB bigX b = true := by
  have := valid_iff.1 h
  rw [contains_iff]; simp only [bigX]; omega
theorem vol_big {l m : List Bx} (h : l.all thickB = true) (h0 : l ≠ []) : volI l m = sum3 (indU l m) bigX := by
  have ht := hull_thick h h0
  rw [vol_eq h h0, vol_wide (fun a ha => hull_has ha) (big_has (thick_iff.1 ht).1) (ord_of ht)]
theorem own_big {b : Bx} (h : thickB b = true) : sum3 (fun x y z => b01 (inU b x y z)) bigX = volB b := sum3_own (big_has (thick_iff.1 h).1) (ord_of h)

theorem vol_hole {l m : List Bx} {b : Bx} (h : l.all thickB = true) (h0 : l ≠ []) (hb : thickB b = true) : volI l (m ++ [b]) ≤ volI l m ∧ volI l m - volB b ≤ volI l (m ++ [b]) := by
  rw [vol_big h h0, vol_big h h0, ← own_big hb]
  refine ⟨sum3_le fun x y z => (hole_bounds b x y z).1, ?_⟩
  have : sum3 (indU l m) bigX ≤ sum3 (indU l (m ++ [b])) bigX + sum3 (fun x y z => b01 (inU b x y z)) bigX := by
    rw [← sum3_plus]
    exact sum3_le fun x y z => (hole_bounds b x y z).2
  omega
theorem all_snoc {l : List Bx} {b : Bx} (h : l.all thickB = true) (hb : thickB b = true) : (l ++ [b]).all thickB = true := by
  rw [List.all_append, h]; simp [hb]
theorem vol_more {l m : List Bx} {b : Bx} (h : l.all thickB = true) (h0 : l ≠ []) (hb : thickB b = true) : volI l m ≤ volI (l ++ [b]) m ∧ volI (l ++ [b]) m ≤ volI l m + volB b := by
  rw [vol_big h h0, vol_big (all_snoc h hb) (by simp), ← own_big hb]
  refine ⟨sum3_le fun x y z => (box_bounds b x y z).1, ?_⟩
  rw [← sum3_plus]
  exact sum3_le fun x y z => (box_bounds b x y z).2
theorem vol_beside {l m : List Bx} {b : Bx} (h : l.all thickB = true) (h0 : l ≠ []) (hg : 0 ≤ gapI (hullX l) b) : volI l (m ++ [b]) = volI l m := by
  rw [vol_eq h h0, vol_eq h h0]
  exact sum3_congr fun x y z => hole_beside (fun a ha => hull_has ha) hg x y z

theorem moved_join (dx dy dz : Int) (a b : Bx) : joinX (movedX dx dy dz a) (movedX dx dy dz b) = movedX dx dy dz (joinX a b) := by
  simp only [joinX, movedX, Bx.mk.injEq]; omega
theorem moved_fold (dx dy dz : Int) (l : List Bx) (a : Bx) : (l.map (movedX dx dy dz)).foldl joinX (movedX dx dy dz a) = movedX dx dy dz (l.foldl joinX a) := by
  induction l generalizing a with
  | nil => rfl
  | cons b l ih => rw [List.map_cons, List.foldl_cons, moved_join, ih, List.foldl_cons]
theorem moved_hull (dx dy dz : Int) {l : List Bx} (h0 : l ≠ []) : hullX (l.map (movedX dx dy dz)) = movedX dx dy dz (hullX l) := by
  cases l with
  | nil => exact absurd rfl h0
  | cons a r => exact moved_fold dx dy dz (a :: r) a
theorem volI_moved (dx dy dz : Int) {l m : List Bx} (h : l.all thickB = true) (h0 : l ≠ []) (h' : (l.map (movedX dx dy dz)).all thickB = true) : volI (l.map (movedX dx dy dz)) (m.map (movedX dx dy dz)) = volI l m := by
  rw [vol_eq h' (by simpa using h0), vol_eq h h0, moved_hull dx dy dz h0, vol_moved]

/-- Coordinates from -2^16 to 2^16. -/
def modestB (b : Bx) : Bool := decide (-65536 ≤ min b.lx (min b.ly b.lz) ∧ max b.hx (max b.hy b.hz) ≤ 65536)
theorem modest_iff {b : Bx} : modestB b = true ↔ (-65536 ≤ b.lx ∧ -65536 ≤ b.ly ∧ -65536 ≤ b.lz) ∧ b.hx ≤ 65536 ∧ b.hy ≤ 65536 ∧ b.hz ≤ 65536 := by
  unfold modestB; rw [decide_eq_true_iff]; omega
theorem modest_vol {l m : List Bx} (h : l.all thickB = true) (h0 : l ≠ []) (hm : l.all modestB = true) : volI l m ≤ 2251799813685248 := by
  rw [vol_eq h h0]
  have ht := hull_thick h h0
  have key : ∀ k, -65536 ≤ (hullX l).lo k ∧ (hullX l).hi k ≤ 65536 := fun k => by
    obtain ⟨⟨b, hb, e⟩, ⟨b', hb', e'⟩⟩ := hull_ends h0 k
    rw [e, e']
    have h1 := modest_iff.1 (List.all_eq_true.1 hm b hb)
    have h2 := modest_iff.1 (List.all_eq_true.1 hm b' hb')
    unfold Bx.lo Bx.hi
    split
    · omega
    · split <;> omega
  have k0 := key 0
  have k1 := key 1
  have k2 := key 2
  change -65536 ≤ (hullX l).lx ∧ (hullX l).hx ≤ 65536 at k0
  change -65536 ≤ (hullX l).ly ∧ (hullX l).hy ≤ 65536 at k1
  change -65536 ≤ (hullX l).lz ∧ (hullX l).hz ≤ 65536 at k2
  exact Int.le_trans (vol_le (ord_of ht)) (Int.le_trans (volB_le (n := 131072) (ord_of ht) (by omega) (by omega) (by omega) (by omega)) (by decide))
end Go.Proofs.YtmhhohancconaaaGreat

namespace Go.Proofs.YtmhhohancconaaaGreat

/-- The parts that have come when a whole layers, b whole columns of the next one, and c cells of the next column are done. -/
def doneB (P0 P1 P2 : List (Int × Int)) (p q : Int × Int) (a b c : Nat) : List Bx := rowA (P0.take a) P1 P2 ++ (rowX (P1.take b) P2 p ++ rowY (P2.take c) p q)
def doneS (l m : List Bx) (P0 P1 P2 : List (Int × Int)) (p q : Int × Int) (a b c : Nat) : List Bx := (doneB P0 P1 P2 p q a b c).filter (selB l m)

section
variable {l m : List Bx} {P0 P1 P2 : List (Int × Int)} {p q : Int × Int} {a b c : Nat}
theorem done_zero (p q : Int × Int) : doneS l m P0 P1 P2 p q 0 0 0 = [] := by simp [doneS, doneB, rowA, rowX, rowY]
theorem done_any (p' q' : Int × Int) : doneS l m P0 P1 P2 p q a 0 0 = doneS l m P0 P1 P2 p' q' a 0 0 := by simp [doneS, doneB, rowX, rowY]
theorem done_any2 (q' : Int × Int) : doneS l m P0 P1 P2 p q a b 0 = doneS l m P0 P1 P2 p q' a b 0 := by simp [doneS, doneB, rowY]
theorem take_flat {α β : Type} (f : α → List β) (P : List α) (i : Nat) (h : i < P.length) : (P.take (i + 1)).flatMap f = (P.take i).flatMap f ++ f P[i] := by
  rw [List.take_succ_eq_append_getElem h, List.flatMap_append]; simp
/-- One cell more. -/
theorem done_cell (hc : c < P2.length) : doneB P0 P1 P2 p q a b (c + 1) = doneB P0 P1 P2 p q a b c ++ [cellX p q P2[c]] := by
  unfold doneB rowY
  rw [List.take_succ_eq_append_getElem hc, List.map_append, List.map_cons, List.map_nil, List.append_assoc, List.append_assoc]
theorem done_sel (hc : c < P2.length) (h : selB l m (cellX p q P2[c]) = true) : doneS l m P0 P1 P2 p q a b (c + 1) = doneS l m P0 P1 P2 p q a b c ++ [cellX p q P2[c]] := by
  unfold doneS; rw [done_cell hc, List.filter_append]; simp [h]
theorem done_skip (hc : c < P2.length) (h : selB l m (cellX p q P2[c]) = false) : doneS l m P0 P1 P2 p q a b (c + 1) = doneS l m P0 P1 P2 p q a b c := by
  unfold doneS; rw [done_cell hc, List.filter_append]; simp [h]
/-- A column is done. -/
theorem done_column (hb : b < P1.length) (hq : q = P1[b]) : doneS l m P0 P1 P2 p q a b P2.length = doneS l m P0 P1 P2 p q a (b + 1) 0 := by
  subst hq
  unfold doneS doneB rowX
  rw [take_flat _ P1 b hb, List.take_length]
  simp [rowY]
/-- A layer is done. -/
theorem done_layer (ha : a < P0.length) (hp : p = P0[a]) : doneS l m P0 P1 P2 p q a P1.length 0 = doneS l m P0 P1 P2 p q (a + 1) 0 0 := by
  subst hp
  unfold doneS doneB rowA
  rw [take_flat _ P0 a ha, List.take_length]
  simp [rowY, rowX]
theorem done_all : doneS l m P0 P1 P2 p q P0.length 0 0 = (rowA P0 P1 P2).filter (selB l m) := by
  unfold doneS doneB; rw [List.take_length]; simp [rowX, rowY]
theorem prefix_flat {α β : Type} (f : α → List β) (P : List α) (i : Nat) (h : i < P.length) {xs : List β} (hx : xs <+: f P[i]) : (P.take i).flatMap f ++ xs <+: P.flatMap f := by
  have e : P.flatMap f = (P.take i).flatMap f ++ (f P[i] ++ (P.drop (i + 1)).flatMap f) := by
    rw [← List.append_assoc, ← take_flat f P i h, ← List.flatMap_append, List.take_append_drop]
  rw [e, List.prefix_append_right_inj]
  exact hx.trans (List.prefix_append _ _)
theorem done_prefix (ha : a < P0.length) (hp : p = P0[a]) (hb : b < P1.length) (hq : q = P1[b]) (hc : c < P2.length) (h : selB l m (cellX p q P2[c]) = true) :
    doneS l m P0 P1 P2 p q a b c ++ [cellX p q P2[c]] <+: (rowA P0 P1 P2).filter (selB l m) := by
  rw [← done_sel hc h]
  unfold doneS
  refine List.IsPrefix.filter _ ?_
  subst hp hq
  unfold doneB rowA
  refine prefix_flat _ P0 a ha ?_
  unfold rowX
  refine prefix_flat _ P1 b hb ?_
  unfold rowY
  rw [List.map_take]
  exact List.take_prefix _ _
end

theorem pairs_at (C : List Int) (i : Nat) (h : i + 1 < C.length) : ∃ hi : i < (pairsL C).length, (pairsL C)[i] = (C[i]'(by omega), C[i + 1]) := by
  have hl := pairsL_len C
  exact ⟨by omega, pairsL_get C i (by omega) (by omega) h⟩
end Go.Proofs.YtmhhohancconaaaGreat

