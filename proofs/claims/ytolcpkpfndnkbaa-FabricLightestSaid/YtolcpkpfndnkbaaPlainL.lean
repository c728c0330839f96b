/- The fabric that is chosen is the lightest of those that have both areas; one more never makes it heavier. -/
import Derived.Test.YtolcpkpfndnkbaaFabM
namespace Go.Proofs.Ytolcpkpfndnkbaa
open Go.RowKit

theorem light_iff {a b : Fb} : lightB a b = true ↔ a.mass * (b.length * b.width) < b.mass * (a.length * a.width) := by
  unfold lightB
  rw [decide_eq_true_iff, Int.mul_assoc, Int.mul_assoc]
theorem light_irrefl (a : Fb) : lightB a a = false := by
  cases h : lightB a a
  · rfl
  · have := light_iff.1 h; omega
theorem light_asymm {a b : Fb} (h : lightB a b = true) : lightB b a = false := by
  cases h2 : lightB b a
  · rfl
  · have := light_iff.1 h; have := light_iff.1 h2; omega
theorem area_pos {a : Fb} (h : fbOk a = true) : 0 < a.length * a.width := by
  have h2 := (fb_bounds h).2.2.1
  have h3 := (fb_bounds h).2.2.2.1
  exact Int.mul_pos (by omega) (by omega)
/-- e is not lighter than p, and f is lighter than p: then e is not lighter than f. -/
theorem light_trans {e f p : Fb} (he : fbOk e = true) (hf : fbOk f = true) (hp : fbOk p = true) (h1 : lightB e p = false) (h2 : lightB f p = true) : lightB e f = false := by
  cases h3 : lightB e f
  · rfl
  · exfalso
    have a1 : ¬ (e.mass * (p.length * p.width) < p.mass * (e.length * e.width)) := fun h => by rw [light_iff.2 h] at h1; cases h1
    have a2 := light_iff.1 h2
    have a3 := light_iff.1 h3
    have pe := area_pos he
    have pf := area_pos hf
    have pp := area_pos hp
    generalize e.length * e.width = x at *
    generalize f.length * f.width = y at *
    generalize p.length * p.width = z at *
    generalize e.mass = a at *
    generalize f.mass = b at *
    generalize p.mass = c at *
    have b1 : c * x * y ≤ a * z * y := Int.mul_le_mul_of_nonneg_right (by omega) (by omega)
    have b2 : b * z * x < c * y * x := Int.mul_lt_mul_of_pos_right a2 pe
    have b3 : a * y * z < b * x * z := Int.mul_lt_mul_of_pos_right a3 pp
    have c1 : c * y * x = c * x * y := Int.mul_right_comm _ _ _
    have c2 : b * x * z = b * z * x := Int.mul_right_comm _ _ _
    have c3 : a * y * z = a * z * y := Int.mul_right_comm _ _ _
    omega

theorem choose_none {l : List Fb} {m c : Int} {k : Nat} (hk : k ≤ l.length) (h : chooseN l m c k = none) (i : Nat) (hi : i < k) : hasB (l[i]'(by omega)) m c = false := by
  induction k with
  | zero => omega
  | succ k ih =>
    rw [choose_succ (by omega)] at h
    unfold stepC at h
    by_cases hb : hasB l[k] m c = true
    · rw [if_pos hb] at h
      cases hc : chooseN l m c k with
      | none => rw [hc] at h; cases h
      | some p =>
        rw [hc] at h
        dsimp only at h
        by_cases hl : lightB l[k] p.2 = true
        · rw [if_pos hl] at h; cases h
        · rw [if_neg hl] at h; cases h
    · rw [if_neg hb] at h
      rcases Nat.lt_or_eq_of_le (Nat.le_of_lt_succ hi) with h2 | h2
      · exact ih (by omega) h h2
      · subst h2; simpa using hb

theorem choose_least {l : List Fb} {m c : Int} {k j : Nat} {g : Fb} (hv : fabsB l = true) (hk : k ≤ l.length) (h : chooseN l m c k = some (j, g)) (i : Nat) (hi : i < k) (hh : hasB (l[i]'(by omega)) m c = true) : lightB (l[i]'(by omega)) g = false := by
  induction k generalizing j g with
  | zero => omega
  | succ k ih =>
    have hkl : k < l.length := by omega
    rw [choose_succ hkl] at h
    unfold stepC at h
    by_cases hb : hasB l[k] m c = true
    · rw [if_pos hb] at h
      cases hc : chooseN l m c k with
      | none =>
        rw [hc] at h
        cases h
        rcases Nat.lt_or_eq_of_le (Nat.le_of_lt_succ hi) with h2 | h2
        · have := choose_none (by omega) hc i h2
          rw [this] at hh; cases hh
        · subst h2; exact light_irrefl _
      | some p =>
        obtain ⟨q, p⟩ := p
        rw [hc] at h
        dsimp only at h
        by_cases hl : lightB l[k] p = true
        · rw [if_pos hl] at h
          cases h
          rcases Nat.lt_or_eq_of_le (Nat.le_of_lt_succ hi) with h2 | h2
          · have h3 := ih (by omega) hc h2 hh
            obtain ⟨hq, hqe, _⟩ := choose_in (by omega) hc
            have hql : q < l.length := by omega
            rw [List.getElem?_eq_getElem hql] at hqe
            have hpo : fbOk p = true := by injection hqe with e; rw [← e]; exact fabs_mem hv hql
            exact light_trans (fabs_mem hv (by omega)) (fabs_mem hv hkl) hpo h3 hl
          · subst h2; exact light_irrefl _
        · rw [if_neg hl] at h
          cases h
          rcases Nat.lt_or_eq_of_le (Nat.le_of_lt_succ hi) with h2 | h2
          · exact ih (by omega) hc h2 hh
          · subst h2; simpa using hl
    · rw [if_neg hb] at h
      rcases Nat.lt_or_eq_of_le (Nat.le_of_lt_succ hi) with h2 | h2
      · exact ih (by omega) h h2 hh
      · subst h2; exact absurd hh hb

theorem choose_more {l : List Fb} {e : Fb} {m c : Int} {k : Nat} (hk : k ≤ l.length) : chooseN (l ++ [e]) m c k = chooseN l m c k := by
  induction k with
  | zero => rfl
  | succ k ih =>
    rw [choose_succ (by rw [List.length_append]; omega), choose_succ (by omega), ih (by omega), List.getElem_append_left (by omega)]
/-- With a further fabric: still one is chosen, and the first one is not lighter. -/
theorem choose_extra {l : List Fb} {e : Fb} {m c : Int} {j : Nat} {g : Fb} (h : chooseN l m c l.length = some (j, g)) : ∃ j' g', chooseN (l ++ [e]) m c (l ++ [e]).length = some (j', g') ∧ lightB g g' = false := by
  have hl : (l ++ [e]).length = l.length + 1 := by simp
  rw [hl, choose_succ (by rw [hl]; omega), choose_more (Nat.le_refl _), h]
  unfold stepC
  by_cases hb : hasB (l ++ [e])[l.length] m c = true
  · rw [if_pos hb]
    dsimp only
    by_cases hg : lightB (l ++ [e])[l.length] g = true
    · rw [if_pos hg]; exact ⟨_, _, rfl, light_asymm hg⟩
    · rw [if_neg hg]; exact ⟨_, _, rfl, light_irrefl _⟩
  · rw [if_neg hb]; exact ⟨_, _, rfl, light_irrefl _⟩

end Go.Proofs.Ytolcpkpfndnkbaa
