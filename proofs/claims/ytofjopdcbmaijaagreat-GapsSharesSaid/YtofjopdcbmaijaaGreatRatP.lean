/- Sums of fractions over one number, in lowest terms: plain laws. -/
import Derived.Test.YtofjopdcbmaijaaGreatExtK
namespace Go.Proofs.YtofjopdcbmaijaaGreat

/-- Two fractions in lowest terms that are equal are the same. -/
theorem low_unique {x y z w : Nat} (h1 : Nat.gcd x y = 1) (h2 : Nat.gcd z w = 1) (hy : 0 < y) (hw : 0 < w) (h : x * w = z * y) : x = z ∧ y = w := by
  have e1 : y ∣ w := by
    have : y ∣ x * w := ⟨z, by rw [h, Nat.mul_comm]⟩
    exact Nat.Coprime.dvd_of_dvd_mul_left (show Nat.Coprime y x by rw [Nat.Coprime, Nat.gcd_comm]; exact h1) this
  have e2 : w ∣ y := by
    have : w ∣ z * y := ⟨x, by rw [← h, Nat.mul_comm]⟩
    exact Nat.Coprime.dvd_of_dvd_mul_left (show Nat.Coprime w z by rw [Nat.Coprime, Nat.gcd_comm]; exact h2) this
  have e3 : y = w := Nat.dvd_antisymm e1 e2
  subst e3
  exact ⟨Nat.eq_of_mul_eq_mul_right hy h, rfl⟩
theorem low_gcd (a b : Nat) (hb : 0 < b) : Nat.gcd (a / Nat.gcd a b) (b / Nat.gcd a b) = 1 :=
  Nat.coprime_div_gcd_div_gcd (Nat.gcd_pos_of_pos_right a hb)
/-- What the sum of two fractions over one number comes to: Knuth's way. -/
theorem add_low (A B D p m q n g s c : Nat) (hD : 0 < D) (hp : p = A / Nat.gcd A D) (hm : m = D / Nat.gcd A D) (hq : q = B / Nat.gcd B D) (hn : n = D / Nat.gcd B D)
    (hg : g = Nat.gcd m n) (hs : s = p * (n / g) + q * (m / g)) (hc : c = Nat.gcd g (s % g)) :
    0 < m ∧ 0 < n ∧ 0 < g ∧ Nat.gcd p m = 1 ∧ Nat.gcd q n = 1 ∧ p * (n / g) ≤ A ∧ q * (m / g) ≤ B ∧ (s = 0 ↔ A + B = 0) ∧ (s ≠ 0 → 0 < c ∧ s / c = (A + B) / Nat.gcd (A + B) D ∧ m / g * (n / c) = D / Nat.gcd (A + B) D) ∧ m ≤ D ∧ n ≤ D ∧ p ≤ A ∧ q ≤ B := by
  have hG1 := Nat.gcd_pos_of_pos_right A hD
  have hG2 := Nat.gcd_pos_of_pos_right B hD
  have hcp : Nat.gcd p m = 1 := by rw [hp, hm]; exact low_gcd A D hD
  have hcq : Nat.gcd q n = 1 := by rw [hq, hn]; exact low_gcd B D hD
  -- A = p G1, D = m G1, B = q G2, D = n G2
  have eA : A = p * Nat.gcd A D := by rw [hp, Nat.div_mul_cancel (Nat.gcd_dvd_left A D)]
  have eD1 : D = m * Nat.gcd A D := by rw [hm, Nat.div_mul_cancel (Nat.gcd_dvd_right A D)]
  have eB : B = q * Nat.gcd B D := by rw [hq, Nat.div_mul_cancel (Nat.gcd_dvd_left B D)]
  have eD2 : D = n * Nat.gcd B D := by rw [hn, Nat.div_mul_cancel (Nat.gcd_dvd_right B D)]
  generalize hG1e : Nat.gcd A D = G1 at *
  generalize hG2e : Nat.gcd B D = G2 at *
  have hm0 : 0 < m := by
    rcases Nat.eq_zero_or_pos m with h | h
    · rw [h, Nat.zero_mul] at eD1; omega
    · exact h
  have hn0 : 0 < n := by
    rcases Nat.eq_zero_or_pos n with h | h
    · rw [h, Nat.zero_mul] at eD2; omega
    · exact h
  have hg0 : 0 < g := by rw [hg]; exact Nat.gcd_pos_of_pos_left n hm0
  obtain ⟨m', hm'⟩ : g ∣ m := by rw [hg]; exact Nat.gcd_dvd_left m n
  obtain ⟨n', hn'⟩ : g ∣ n := by rw [hg]; exact Nat.gcd_dvd_right m n
  have hmg : m / g = m' := by rw [hm', Nat.mul_div_cancel_left _ hg0]
  have hng : n / g = n' := by rw [hn', Nat.mul_div_cancel_left _ hg0]
  have hmn : Nat.gcd m' n' = 1 := by
    have : Nat.gcd (m / Nat.gcd m n) (n / Nat.gcd m n) = 1 := Nat.coprime_div_gcd_div_gcd (by rw [← hg]; exact hg0)
    rw [← hg, hmg, hng] at this
    exact this
  rw [hmg, hng] at hs
  rw [hmg]
  rw [hng]
  have hm'0 : 0 < m' := by
    rcases Nat.eq_zero_or_pos m' with h | h
    · rw [h, Nat.mul_zero] at hm'; omega
    · exact h
  have hn'0 : 0 < n' := by
    rcases Nat.eq_zero_or_pos n' with h | h
    · rw [h, Nat.mul_zero] at hn'; omega
    · exact h
  -- D = g m' G1 = g n' G2: m' G1 = n' G2, so n' divides G1
  have hmG : m' * G1 = n' * G2 := by
    have : g * (m' * G1) = g * (n' * G2) := by rw [← Nat.mul_assoc, ← Nat.mul_assoc, ← hm', ← hn', ← eD1, ← eD2]
    exact Nat.eq_of_mul_eq_mul_left hg0 this
  obtain ⟨t, ht⟩ : n' ∣ G1 := Nat.Coprime.dvd_of_dvd_mul_left (show Nat.Coprime n' m' by rw [Nat.Coprime, Nat.gcd_comm]; exact hmn) ⟨G2, hmG⟩
  have hG2t : G2 = m' * t := by
    rw [ht] at hmG
    have : n' * (m' * t) = n' * G2 := by rw [← hmG]; rw [Nat.mul_left_comm]
    exact (Nat.eq_of_mul_eq_mul_left hn'0 this).symm
  have ht0 : 0 < t := by
    rcases Nat.eq_zero_or_pos t with h | h
    · rw [h, Nat.mul_zero] at ht; omega
    · exact h
  have eA' : A = p * n' * t := by rw [eA, ht, Nat.mul_assoc]
  have eB' : B = q * m' * t := by rw [eB, hG2t, Nat.mul_assoc]
  have eS : A + B = s * t := by rw [eA', eB', hs, Nat.add_mul]
  have eD : D = g * m' * n' * t := by rw [eD1, hm', ht, Nat.mul_assoc (g * m')]
  -- s has nothing in common with m' and n'
  have hpm' : Nat.gcd p m' = 1 := Nat.Coprime.coprime_mul_left_right (show Nat.Coprime p (g * m') by rw [← hm']; exact hcp)
  have hqn' : Nat.gcd q n' = 1 := Nat.Coprime.coprime_mul_left_right (show Nat.Coprime q (g * n') by rw [← hn']; exact hcq)
  have hsm : Nat.Coprime s m' := by
    have h1 : Nat.Coprime (p * n') m' := Nat.Coprime.mul_left hpm' (show Nat.Coprime n' m' by rw [Nat.Coprime, Nat.gcd_comm]; exact hmn)
    rw [hs]
    show Nat.gcd (p * n' + q * m') m' = 1
    rw [Nat.gcd_add_mul_right_left]; exact h1
  have hsn : Nat.Coprime s n' := by
    have h1 : Nat.Coprime (q * m') n' := Nat.Coprime.mul_left hqn' hmn
    rw [hs]
    show Nat.gcd (p * n' + q * m') n' = 1
    rw [Nat.add_comm, Nat.gcd_add_mul_right_left]; exact h1
  refine ⟨hm0, hn0, hg0, hcp, hcq, ?_, ?_, ?_, ?_, ?_, ?_, ?_, ?_⟩
  · rw [eA']; exact Nat.le_mul_of_pos_right _ ht0
  · rw [eB']; exact Nat.le_mul_of_pos_right _ ht0
  · rw [eS]
    constructor
    · intro h; rw [h, Nat.zero_mul]
    · intro h
      rcases Nat.mul_eq_zero.1 h with h | h
      · exact h
      · omega
  · intro hs0
    have hce : c = Nat.gcd g s := by rw [hc, Nat.gcd_comm g (s % g), ← Nat.gcd_rec]
    have hc0 : 0 < c := by rw [hce]; exact Nat.gcd_pos_of_pos_left s hg0
    obtain ⟨g', hg'⟩ : c ∣ g := by rw [hce]; exact Nat.gcd_dvd_left g s
    obtain ⟨s', hs'⟩ : c ∣ s := by rw [hce]; exact Nat.gcd_dvd_right g s
    have hgs : Nat.gcd (g / Nat.gcd g s) (s / Nat.gcd g s) = 1 := Nat.coprime_div_gcd_div_gcd (by rw [← hce]; exact hc0)
    rw [← hce] at hgs
    have hsc : s / c = s' := by rw [hs', Nat.mul_div_cancel_left _ hc0]
    have hgc : g / c = g' := by rw [hg', Nat.mul_div_cancel_left _ hc0]
    rw [hsc, hgc] at hgs
    have hnc : n / c = g' * n' := by rw [hn', hg', Nat.mul_assoc, Nat.mul_div_cancel_left _ hc0]
    rw [hsc, hnc]
    have hg'0 : 0 < g' := by
      rcases Nat.eq_zero_or_pos g' with h | h
      · rw [h, Nat.mul_zero] at hg'; omega
      · exact h
    have hs'm : Nat.Coprime s' m' := Nat.Coprime.coprime_mul_left (show Nat.Coprime (c * s') m' by rw [← hs']; exact hsm)
    have hs'n : Nat.Coprime s' n' := Nat.Coprime.coprime_mul_left (show Nat.Coprime (c * s') n' by rw [← hs']; exact hsn)
    have hs'g : Nat.Coprime s' g' := by rw [Nat.Coprime, Nat.gcd_comm]; exact hgs
    have hlow : Nat.gcd s' (m' * (g' * n')) = 1 := Nat.Coprime.mul_right hs'm (Nat.Coprime.mul_right hs'g hs'n)
    have hG := Nat.gcd_pos_of_pos_right (A + B) hD
    have hlow2 := low_gcd (A + B) D hD
    have eX : (A + B) / Nat.gcd (A + B) D * Nat.gcd (A + B) D = A + B := Nat.div_mul_cancel (Nat.gcd_dvd_left _ _)
    have eY : D / Nat.gcd (A + B) D * Nat.gcd (A + B) D = D := Nat.div_mul_cancel (Nat.gcd_dvd_right _ _)
    generalize Nat.gcd (A + B) D = G at *
    generalize (A + B) / G = X at *
    generalize D / G = Y at *
    have hY : 0 < Y := by
      rcases Nat.eq_zero_or_pos Y with h | h
      · rw [h, Nat.zero_mul] at eY; omega
      · exact h
    have hM : 0 < m' * (g' * n') := Nat.mul_pos hm'0 (Nat.mul_pos hg'0 hn'0)
    have hcross : s' * Y = X * (m' * (g' * n')) := by
      have h1 : s' * Y * G = X * (m' * (g' * n')) * G := by
        rw [Nat.mul_assoc, eY, Nat.mul_right_comm, eX, eS, eD, hs', hg']
        simp only [Nat.mul_comm, Nat.mul_left_comm]
      exact Nat.eq_of_mul_eq_mul_right hG h1
    obtain ⟨e1, e2⟩ := low_unique hlow hlow2 hM hY hcross
    exact ⟨hc0, e1, e2⟩
  · rw [eD1]; exact Nat.le_mul_of_pos_right _ hG1
  · rw [eD2]; exact Nat.le_mul_of_pos_right _ hG2
  · rw [eA]; exact Nat.le_mul_of_pos_right _ hG1
  · rw [eB]; exact Nat.le_mul_of_pos_right _ hG2

end Go.Proofs.YtofjopdcbmaijaaGreat
