/- Sums over ranges of integers, and over the neighbours in an ascending list. -/
import Derived.Test.YtafkibnkpcmmgaaRefH
namespace Go.Proofs.Ytafkibnkpcmmgaa

def sumN (f : Nat → Int) : Nat → Int
  | 0 => 0
  | n + 1 => sumN f n + f n
/-- The sum of f from lo on, below hi. -/
def sumI (f : Int → Int) (lo hi : Int) : Int := sumN (fun i => f (lo + i)) (hi - lo).toNat

theorem sumN_congr {f g : Nat → Int} {n : Nat} (h : ∀ i, i < n → f i = g i) : sumN f n = sumN g n := by
  induction n with
  | zero => rfl
  | succ n ih => rw [sumN, sumN, ih (fun i hi => h i (by omega)), h n (by omega)]
theorem sumN_add {f : Nat → Int} (m n : Nat) : sumN f (m + n) = sumN f m + sumN (fun i => f (m + i)) n := by
  induction n with
  | zero => simp [sumN]
  | succ n ih => rw [show m + (n + 1) = (m + n) + 1 by omega, sumN, ih, sumN]; omega
theorem sumN_plus {f g : Nat → Int} (n : Nat) : sumN (fun i => f i + g i) n = sumN f n + sumN g n := by
  induction n with
  | zero => rfl
  | succ n ih => rw [sumN, sumN, sumN, ih]; omega
theorem sumN_const (c : Int) (n : Nat) : sumN (fun _ => c) n = c * n := by
  induction n with
  | zero => simp [sumN]
  | succ n ih => rw [sumN, ih]; simp [Int.mul_add]
theorem sumN_le {f g : Nat → Int} {n : Nat} (h : ∀ i, i < n → f i ≤ g i) : sumN f n ≤ sumN g n := by
  induction n with
  | zero => exact Int.le_refl _
  | succ n ih => rw [sumN, sumN]; have := ih (fun i hi => h i (by omega)); have := h n (by omega); omega

theorem sumI_empty {f : Int → Int} {lo hi : Int} (h : hi ≤ lo) : sumI f lo hi = 0 := by
  unfold sumI; rw [show (hi - lo).toNat = 0 by omega]; rfl
theorem sumI_congr {f g : Int → Int} {lo hi : Int} (h : ∀ x, lo ≤ x → x < hi → f x = g x) : sumI f lo hi = sumI g lo hi := by
  unfold sumI; exact sumN_congr fun i hi => h _ (by omega) (by omega)
theorem sumI_split {f : Int → Int} {lo mid hi : Int} (h1 : lo ≤ mid) (h2 : mid ≤ hi) : sumI f lo hi = sumI f lo mid + sumI f mid hi := by
  unfold sumI
  rw [show (hi - lo).toNat = (mid - lo).toNat + (hi - mid).toNat by omega, sumN_add]
  congr 1
  exact sumN_congr fun i _ => by congr 1; omega
theorem sumI_plus {f g : Int → Int} (lo hi : Int) : sumI (fun x => f x + g x) lo hi = sumI f lo hi + sumI g lo hi := by
  unfold sumI; exact sumN_plus _
theorem sumI_const {lo hi : Int} (c : Int) (h : lo ≤ hi) : sumI (fun _ => c) lo hi = c * (hi - lo) := by
  unfold sumI; rw [sumN_const]; congr 1; omega
theorem sumI_zero (lo hi : Int) : sumI (fun _ => 0) lo hi = 0 := by
  unfold sumI; rw [sumN_const]; simp
theorem sumI_null {f : Int → Int} {lo hi : Int} (h : ∀ x, lo ≤ x → x < hi → f x = 0) : sumI f lo hi = 0 := by
  rw [sumI_congr h, sumI_zero]
theorem sumI_le {f g : Int → Int} {lo hi : Int} (h : ∀ x, lo ≤ x → x < hi → f x ≤ g x) : sumI f lo hi ≤ sumI g lo hi := by
  unfold sumI; exact sumN_le fun i hi => h _ (by omega) (by omega)
theorem sumI_nonneg {f : Int → Int} {lo hi : Int} (h : ∀ x, lo ≤ x → x < hi → 0 ≤ f x) : 0 ≤ sumI f lo hi := by
  rw [← sumI_zero lo hi]; exact sumI_le h
theorem sumI_shift (f : Int → Int) (lo hi d : Int) : sumI (fun x => f (x - d)) (lo + d) (hi + d) = sumI f lo hi := by
  unfold sumI
  rw [show (hi + d - (lo + d)).toNat = (hi - lo).toNat by omega]
  refine sumN_congr fun i _ => ?_
  show f (lo + d + (i : Int) - d) = f (lo + i)
  congr 1; omega
/-- The sum over a range within a greater one, beyond which f is 0. -/
theorem sumI_grow {f : Int → Int} {lo hi a z : Int} (h1 : a ≤ lo) (h2 : lo ≤ hi) (h3 : hi ≤ z) (h : ∀ x, a ≤ x → x < z → x < lo ∨ hi ≤ x → f x = 0) : sumI f a z = sumI f lo hi := by
  rw [sumI_split h1 (show lo ≤ z by omega), sumI_split h2 h3, sumI_null fun x p q => h x p (by omega) (by omega), sumI_null fun x p q => h x (by omega) q (by omega)]
  omega

/-- The sum over a list. -/
def sumL {α : Type} (f : α → Int) : List α → Int
  | [] => 0
  | a :: l => f a + sumL f l
theorem sumL_append {α : Type} (f : α → Int) (l m : List α) : sumL f (l ++ m) = sumL f l + sumL f m := by
  induction l with
  | nil => simp [sumL]
  | cons a l ih => rw [List.cons_append, sumL, sumL, ih]; omega
theorem sumL_flat {α β : Type} (f : β → Int) (g : α → List β) (l : List α) : sumL f (l.flatMap g) = sumL (fun a => sumL f (g a)) l := by
  induction l with
  | nil => rfl
  | cons a l ih => rw [List.flatMap_cons, sumL_append, sumL, ih]
theorem sumL_map {α β : Type} (f : β → Int) (g : α → β) (l : List α) : sumL f (l.map g) = sumL (fun a => f (g a)) l := by
  induction l with
  | nil => rfl
  | cons a l ih => rw [List.map_cons, sumL, sumL, ih]
theorem sumL_filter {α : Type} (f : α → Int) (p : α → Bool) (l : List α) : sumL f (l.filter p) = sumL (fun a => if p a = true then f a else 0) l := by
  induction l with
  | nil => rfl
  | cons a l ih =>
    rw [List.filter_cons]
    by_cases h : p a = true
    · rw [if_pos h, sumL, sumL, ih, if_pos h]
    · rw [if_neg h, sumL, ih, if_neg h]; omega
theorem sumL_congr {α : Type} {f g : α → Int} {l : List α} (h : ∀ a ∈ l, f a = g a) : sumL f l = sumL g l := by
  induction l with
  | nil => rfl
  | cons a l ih => rw [sumL, sumL, h a (by simp), ih fun b hb => h b (List.mem_cons_of_mem _ hb)]
theorem sumL_le {α : Type} {f g : α → Int} {l : List α} (h : ∀ a ∈ l, f a ≤ g a) : sumL f l ≤ sumL g l := by
  induction l with
  | nil => exact Int.le_refl _
  | cons a l ih => rw [sumL, sumL]; have := h a (by simp); have := ih fun b hb => h b (List.mem_cons_of_mem _ hb); omega
theorem sumL_nonneg {α : Type} {f : α → Int} {l : List α} (h : ∀ a ∈ l, 0 ≤ f a) : 0 ≤ sumL f l := by
  induction l with
  | nil => exact Int.le_refl _
  | cons a l ih => rw [sumL]; have := h a (by simp); have := ih fun b hb => h b (List.mem_cons_of_mem _ hb); omega
theorem sumL_take {α : Type} (f : α → Int) (l : List α) (i : Nat) (h : i < l.length) : sumL f (l.take (i + 1)) = sumL f (l.take i) + f l[i] := by
  rw [List.take_succ_eq_append_getElem h, sumL_append]; simp [sumL]
theorem sumL_take_le {α : Type} {f : α → Int} {l : List α} (h : ∀ a ∈ l, 0 ≤ f a) (i : Nat) : sumL f (l.take i) ≤ sumL f l := by
  have e : sumL f l = sumL f (l.take i) + sumL f (l.drop i) := by rw [← sumL_append, List.take_append_drop]
  have := sumL_nonneg (f := f) (l := l.drop i) (fun a ha => h a (List.mem_of_mem_drop ha))
  omega

/-- The spans between the neighbours of an ascending list make up the whole range. -/
theorem pairs_sum (f : Int → Int) : ∀ (A : List Int) (h : A ≠ []), A.Pairwise (· < ·) → sumL (fun p => sumI f p.1 p.2) (pairsL A) = sumI f (A.head h) (A.getLast h)
  | [a], _, _ => by simp [pairsL, sumL, sumI_empty]
  | a :: b :: r, _, hA => by
    rw [List.pairwise_cons] at hA
    have ih := pairs_sum f (b :: r) (by simp) hA.2
    have hab := hA.1 b (by simp)
    have hbl : b ≤ (b :: r).getLast (by simp) := by
      rcases List.mem_cons.1 (List.getLast_mem (l := b :: r) (by simp)) with h | h
      · omega
      · have := (List.pairwise_cons.1 hA.2).1 _ h; omega
    rw [pairsL, sumL, ih]
    simp only [List.head_cons, List.getLast_cons_cons] at *
    rw [sumI_split (Int.le_of_lt hab) hbl]
theorem head_le {A : List Int} (hA : A.Pairwise (· < ·)) (h : A ≠ []) {x : Int} (hx : x ∈ A) : A.head h ≤ x := by
  cases A with
  | nil => cases hx
  | cons a r =>
    rcases List.mem_cons.1 hx with e | e
    · subst e; exact Int.le_refl _
    · have := (List.pairwise_cons.1 hA).1 x e; simp only [List.head_cons]; omega
theorem le_last {A : List Int} (hA : A.Pairwise (· < ·)) (h : A ≠ []) {x : Int} (hx : x ∈ A) : x ≤ A.getLast h := by
  induction A with
  | nil => cases hx
  | cons a r ih =>
    rw [List.pairwise_cons] at hA
    cases r with
    | nil => simp at hx; subst hx; exact Int.le_refl _
    | cons b r =>
      rw [List.getLast_cons_cons]
      rcases List.mem_cons.1 hx with e | e
      · have h1 := hA.1 b (by simp)
        have h2 : b ≤ (b :: r).getLast (by simp) := by
          rcases List.mem_cons.1 (List.getLast_mem (l := b :: r) (by simp)) with h | h
          · omega
          · have := (List.pairwise_cons.1 hA.2).1 _ h; omega
        omega
      · exact ih hA.2 (by simp) e
/-- Two ascending lists of the same numbers are the same. -/
theorem asc_ext : ∀ {A B : List Int}, A.Pairwise (· < ·) → B.Pairwise (· < ·) → (∀ x, x ∈ A ↔ x ∈ B) → A = B
  | [], [], _, _, _ => rfl
  | [], b :: B, _, _, h => absurd ((h b).2 (by simp)) (by simp)
  | a :: A, [], _, _, h => absurd ((h a).1 (by simp)) (by simp)
  | a :: A, b :: B, hA, hB, h => by
    rw [List.pairwise_cons] at hA hB
    have e : a = b := by
      have h1 := (h a).1 (by simp)
      have h2 := (h b).2 (by simp)
      rcases List.mem_cons.1 h1 with e | e
      · exact e
      rcases List.mem_cons.1 h2 with f | f
      · exact f.symm
      have := hB.1 a e
      have := hA.1 b f
      omega
    subst e
    congr 1
    refine asc_ext hA.2 hB.2 fun x => ⟨fun hx => ?_, fun hx => ?_⟩
    · rcases List.mem_cons.1 ((h x).1 (List.mem_cons_of_mem _ hx)) with e | e
      · subst e; have := hA.1 x hx; omega
      · exact e
    · rcases List.mem_cons.1 ((h x).2 (List.mem_cons_of_mem _ hx)) with e | e
      · subst e; have := hB.1 x hx; omega
      · exact e

/-- The sums along the three axes. -/
def sum3 (f : Int → Int → Int → Int) (b : Bx) : Int := sumI (fun x => sumI (fun y => sumI (fun z => f x y z) b.lz b.hz) b.ly b.hy) b.lx b.hx
theorem sum3_le {f g : Int → Int → Int → Int} {b : Bx} (h : ∀ x y z, f x y z ≤ g x y z) : sum3 f b ≤ sum3 g b :=
  sumI_le fun x _ _ => sumI_le fun y _ _ => sumI_le fun z _ _ => h x y z
theorem sum3_congr {f g : Int → Int → Int → Int} {b : Bx} (h : ∀ x y z, f x y z = g x y z) : sum3 f b = sum3 g b :=
  sumI_congr fun x _ _ => sumI_congr fun y _ _ => sumI_congr fun z _ _ => h x y z
theorem sum3_plus (f g : Int → Int → Int → Int) (b : Bx) : sum3 (fun x y z => f x y z + g x y z) b = sum3 f b + sum3 g b := by
  unfold sum3
  rw [← sumI_plus]
  refine sumI_congr fun x _ _ => ?_
  rw [← sumI_plus]
  refine sumI_congr fun y _ _ => ?_
  rw [← sumI_plus]
/-- f is 0 beyond the smaller box: the sum over a greater one is the same. -/
theorem sum3_grow {f : Int → Int → Int → Int} {a b : Bx} (hc : containsB a b = true) (hb : b.lx ≤ b.hx ∧ b.ly ≤ b.hy ∧ b.lz ≤ b.hz)
    (h : ∀ x y z, (x < b.lx ∨ b.hx ≤ x ∨ y < b.ly ∨ b.hy ≤ y ∨ z < b.lz ∨ b.hz ≤ z) → f x y z = 0) : sum3 f a = sum3 f b := by
  have hc := contains_iff.1 hc
  unfold sum3
  rw [sumI_grow hc.1 hb.1 hc.2.1 (fun x _ _ hx => sumI_null fun y _ _ => sumI_null fun z _ _ => h x y z (by omega))]
  refine sumI_congr fun x _ _ => ?_
  rw [sumI_grow hc.2.2.1 hb.2.1 hc.2.2.2.1 (fun y _ _ hy => sumI_null fun z _ _ => h x y z (by omega))]
  refine sumI_congr fun y _ _ => ?_
  rw [sumI_grow hc.2.2.2.2.1 hb.2.2 hc.2.2.2.2.2 (fun z _ _ hz => h x y z (by omega))]

end Go.Proofs.Ytafkibnkpcmmgaa
