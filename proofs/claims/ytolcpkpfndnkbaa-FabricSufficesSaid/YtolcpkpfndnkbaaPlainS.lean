/- No fewer sheets cover a grid: points, one for each sheet, of which a cut sheet has at most one. -/
import Derived.Test.YtolcpkpfndnkbaaPlainA
namespace Go.Proofs.Ytolcpkpfndnkbaa
open Go.RowKit

theorem pigeon {α β : Type} [DecidableEq α] (R : α → β → Prop) (r : List β) : ∀ p : List α, p.Nodup → (∀ x ∈ p, ∃ a ∈ r, R x a) → (∀ x ∈ p, ∀ y ∈ p, ∀ a ∈ r, R x a → R y a → x = y) → p.length ≤ r.length := by
  induction r with
  | nil =>
    intro p _ h _
    cases p with
    | nil => simp
    | cons x p => obtain ⟨a, ha, _⟩ := h x (by simp); simp at ha
  | cons a r ih =>
    intro p hn h hu
    by_cases hx : ∃ x ∈ p, R x a
    · obtain ⟨x, hxp, hxa⟩ := hx
      have hl := ih (p.erase x) (hn.erase x) (by
        intro y hy
        have hyp := List.mem_of_mem_erase hy
        have hne : y ≠ x := fun e => by
          rw [e] at hy
          exact (List.Nodup.not_mem_erase hn) hy
        obtain ⟨b, hb, hyb⟩ := h y hyp
        rcases List.mem_cons.1 hb with rfl | hb
        · exact absurd (hu y hyp x hxp b (by simp) hyb hxa) hne
        · exact ⟨b, hb, hyb⟩) (fun y hy z hz b hb h1 h2 => hu y (List.mem_of_mem_erase hy) z (List.mem_of_mem_erase hz) b (List.mem_cons_of_mem _ hb) h1 h2)
      rw [List.length_erase_of_mem hxp] at hl
      have := List.length_pos_of_mem hxp
      simp only [List.length_cons]
      omega
    · have hl := ih p hn (by
        intro y hy
        obtain ⟨b, hb, hyb⟩ := h y hy
        rcases List.mem_cons.1 hb with rfl | hb
        · exact absurd ⟨y, hy, hyb⟩ hx
        · exact ⟨b, hb, hyb⟩) (fun y hy z hz b hb h1 h2 => hu y hy z hz b (List.mem_cons_of_mem _ hb) h1 h2)
      simp only [List.length_cons]
      omega

theorem scale_le {K a b : Int} (hK : 0 ≤ K) (h : a ≤ b) : K * a ≤ K * b := Int.mul_le_mul_of_nonneg_left h hK

theorem pairs_coverK {K : Int} (hK : 0 ≤ K) (A : List Int) (P : Int) (lo hi : Int) (hlo : lo ∈ A) (hhi : hi ∈ A) (hlt : lo < hi) (h1 : K * lo ≤ P) (h2 : P ≤ K * hi) (hA : A.Pairwise (· < ·)) : ∃ p ∈ pairsL A, K * p.1 ≤ P ∧ P ≤ K * p.2 := by
  induction A generalizing lo with
  | nil => simp at hlo
  | cons a A ih =>
    cases A with
    | nil => simp at hlo hhi; omega
    | cons b r =>
      rw [List.pairwise_cons] at hA
      have hab := hA.1 b (by simp)
      by_cases hPb : P ≤ K * b
      · rcases List.mem_cons.1 hlo with rfl | hlo'
        · exact ⟨(lo, b), by simp [pairsL], h1, hPb⟩
        · have h3 : b ≤ lo := by
            rcases List.mem_cons.1 hlo' with rfl | h
            · exact Int.le_refl _
            · have := (List.pairwise_cons.1 hA.2).1 lo h; omega
          have e1 := scale_le hK h3
          have e2 := scale_le hK (Int.le_of_lt hab)
          exact ⟨(a, b), by simp [pairsL], by simp only; omega, hPb⟩
      · have hhi' : hi ∈ b :: r := by
          rcases List.mem_cons.1 hhi with rfl | h
          · have := hA.1 b (by simp)
            have e3 := scale_le hK (Int.le_of_lt this)
            omega
          · exact h
        have hne : b < hi := by
          rcases List.mem_cons.1 hhi' with h | h
          · subst h; omega
          · exact (List.pairwise_cons.1 hA.2).1 hi h
        obtain ⟨p, hp, h5⟩ := ih b (by simp) hhi' hne (by omega) hA.2
        exact ⟨p, by simp only [pairsL]; exact List.mem_cons_of_mem _ hp, h5⟩

theorem parts_coverK {K : Int} (hK : 0 ≤ K) {l : List Bx} {b : Bx} {k : Int} (hb : b.lo k ≤ b.hi k) (P : Int) (h1 : K * b.lo k ≤ P) (h2 : P ≤ K * b.hi k) : ∃ p ∈ partsL l b k, K * p.1 ≤ P ∧ P ≤ K * p.2 := by
  unfold partsL
  split
  · exact ⟨_, List.mem_singleton.2 rfl, h1, h2⟩
  · rename_i he
    obtain ⟨c1, c2⟩ := cutsL_spec (atL l (b.lo k) (b.hi k) k)
    exact pairs_coverK hK _ P (b.lo k) (b.hi k) ((c1 _).2 (mem_atL.2 (.inl rfl))) ((c1 _).2 (mem_atL.2 (.inr (.inl rfl)))) (by omega) h1 h2 c2

/-- A scaled point of a covered box lies in one of the boxes. -/
theorem covers_scaled {K : Int} (hK : 0 ≤ K) {l : List Bx} {b : Bx} (h0 : b.lx ≤ b.hx) (h1 : b.ly ≤ b.hy) (h2 : b.lz ≤ b.hz) (h : coversB l b = true) (P Q : Int) (hP : K * b.lx ≤ P ∧ P ≤ K * b.hx) (hQ : K * b.ly ≤ Q ∧ Q ≤ K * b.hy) :
    ∃ a ∈ l, (K * a.lx ≤ P ∧ P ≤ K * a.hx) ∧ (K * a.ly ≤ Q ∧ Q ≤ K * a.hy) := by
  obtain ⟨x, hx, hx1⟩ := parts_coverK (l := l) (b := b) (k := 0) hK h0 P hP.1 hP.2
  obtain ⟨y, hy, hy1⟩ := parts_coverK (l := l) (b := b) (k := 1) hK h1 Q hQ.1 hQ.2
  obtain ⟨z, hz, hz1⟩ := parts_coverK (l := l) (b := b) (k := 2) hK h2 (K * b.lz) (Int.le_refl _) (scale_le hK h2)
  have c1 := List.all_eq_true.1 h x hx
  have c2 := List.all_eq_true.1 c1 y hy
  have c3 := List.all_eq_true.1 c2 z hz
  obtain ⟨a, ha, hc⟩ := List.any_eq_true.1 c3
  have hc := contains_iff.1 hc
  simp only [cellX] at hc
  have e1 := scale_le hK (show a.lx ≤ x.1 by omega)
  have e2 := scale_le hK (show x.2 ≤ a.hx by omega)
  have e3 := scale_le hK (show a.ly ≤ y.1 by omega)
  have e4 := scale_le hK (show y.2 ≤ a.hy by omega)
  exact ⟨a, ha, ⟨by omega, by omega⟩, by omega, by omega⟩

/-- The points along an axis: the i-th just beyond i steps, the last one at the end. -/
def spotI (K L d : Int) (n i : Nat) : Int := if i + 1 = n then K * L else i * (K * d + 1)

theorem spot_in {K L S d : Int} {n i : Nat} (hK : 0 ≤ K) (hL : 0 ≤ L) (hd : 0 ≤ d) (hS : 0 ≤ S) (hn : 2 ≤ n → ((n : Int) - 2) * d + 1 ≤ L - S) (hnK : (n : Int) ≤ K) (hi : i < n) : 0 ≤ spotI K L d n i ∧ spotI K L d n i ≤ K * L ∧ (i + 1 ≠ n → spotI K L d n i < K * (L - S)) := by
  have hKL : 0 ≤ K * L := Int.mul_nonneg hK hL
  unfold spotI
  by_cases h : i + 1 = n
  · rw [if_pos h]; exact ⟨hKL, Int.le_refl _, fun h' => absurd h h'⟩
  · rw [if_neg h]
    have h2 := hn (by omega)
    have hKd : 0 ≤ K * d := Int.mul_nonneg hK hd
    have e1 : (i : Int) * d ≤ ((n : Int) - 2) * d := Int.mul_le_mul_of_nonneg_right (by omega) hd
    have e2 : (i : Int) * (K * d + 1) = K * ((i : Int) * d) + i := by rw [Int.mul_add, Int.mul_one, Int.mul_left_comm]
    have e3 := scale_le hK (show (i : Int) * d ≤ L - S - 1 by omega)
    have e4 : K * (L - S - 1) = K * (L - S) - K := by rw [Int.mul_sub, Int.mul_one]
    have e5 := scale_le hK (show L - S ≤ L by omega)
    have e6 : 0 ≤ (i : Int) * (K * d + 1) := Int.mul_nonneg (by omega) (by omega)
    refine ⟨e6, by omega, fun _ => by omega⟩

theorem spot_one {K L S d : Int} {n i j : Nat} (hK : 0 < K) (hL : 0 ≤ L) (hd : 0 ≤ d) (hS : 0 ≤ S) (hn : 2 ≤ n → ((n : Int) - 2) * d + 1 ≤ L - S) (hnK : (n : Int) ≤ K) (hi : i < n) (hj : j < n) (hij : i < j) {a c : Int}
    (hac : (c - a ≤ d ∧ c < L) ∨ L - S ≤ a) (h1 : K * a ≤ spotI K L d n i) (h4 : spotI K L d n j ≤ K * c) : False := by
  have hK0 : 0 ≤ K := Int.le_of_lt hK
  obtain ⟨a1, a2, a3⟩ := spot_in hK0 hL hd hS hn hnK hi
  rcases hac with ⟨h5, h6⟩ | h5
  · have e1 : K * c < K * L := Int.mul_lt_mul_of_pos_left h6 hK
    have hjn : j + 1 ≠ n := fun h => by unfold spotI at h4; rw [if_pos h] at h4; omega
    have hin : i + 1 ≠ n := by omega
    unfold spotI at h1 h4
    rw [if_neg hin] at h1
    rw [if_neg hjn] at h4
    have hKd : 0 ≤ K * d := Int.mul_nonneg hK0 hd
    have e2 : ((i : Int) + 1) * (K * d + 1) ≤ (j : Int) * (K * d + 1) := Int.mul_le_mul_of_nonneg_right (by omega) (by omega)
    rw [Int.add_mul, Int.one_mul] at e2
    have e3 := scale_le hK0 (show c ≤ a + d by omega)
    rw [Int.mul_add] at e3
    omega
  · have e1 := a3 (by omega)
    have e2 := scale_le hK0 h5
    omega

/-- Boxes that cover a slab, each cut so that it spans at most one step, or reaches back by at most a sheet's length from the slab's end, are at least as many as the steps. -/
theorem count_cover {r : List Bx} {L W S T d e : Int} {n m : Nat} (hL : 0 ≤ L) (hW : 0 ≤ W) (hd : 0 ≤ d) (he : 0 ≤ e) (hS : 0 ≤ S) (hT : 0 ≤ T)
    (hn : 2 ≤ n → ((n : Int) - 2) * d + 1 ≤ L - S) (hm : 2 ≤ m → ((m : Int) - 2) * e + 1 ≤ W - T)
    (hr : ∀ a ∈ r, ((a.hx - a.lx ≤ d ∧ a.hx < L) ∨ L - S ≤ a.lx) ∧ ((a.hy - a.ly ≤ e ∧ a.hy < W) ∨ W - T ≤ a.ly))
    (h : coversB r ⟨0, 0, 0, L, W, 0⟩ = true) : n * m ≤ r.length := by
  by_cases hm0 : m = 0
  · subst hm0; simp
  have hmp : 0 < m := by omega
  have hKn : (n : Int) ≤ (n : Int) + m + 1 := by omega
  have hKm : (m : Int) ≤ (n : Int) + m + 1 := by omega
  have hK : 0 < (n : Int) + m + 1 := by omega
  generalize (n : Int) + m + 1 = K at *
  have hK0 : 0 ≤ K := Int.le_of_lt hK
  have hp := pigeon (fun (p : Nat) (a : Bx) => (K * a.lx ≤ spotI K L d n (p / m) ∧ spotI K L d n (p / m) ≤ K * a.hx) ∧ (K * a.ly ≤ spotI K W e m (p % m) ∧ spotI K W e m (p % m) ≤ K * a.hy)) r (List.range (n * m)) List.nodup_range (by
    intro p hp
    have hp' := List.mem_range.1 hp
    have i1 : p / m < n := (Nat.div_lt_iff_lt_mul hmp).2 hp'
    have i2 : p % m < m := Nat.mod_lt _ hmp
    obtain ⟨a1, a2, _⟩ := spot_in hK0 hL hd hS hn hKn i1
    obtain ⟨b1, b2, _⟩ := spot_in hK0 hW he hT hm hKm i2
    exact covers_scaled hK0 (by simpa using hL) (by simpa using hW) (Int.le_refl _) h _ _ ⟨by simpa using a1, a2⟩ ⟨by simpa using b1, b2⟩) (by
    intro p hp q hq a ha h1 h2
    have hp' := List.mem_range.1 hp
    have hq' := List.mem_range.1 hq
    obtain ⟨c1, c2⟩ := hr a ha
    have i1 : p / m < n := (Nat.div_lt_iff_lt_mul hmp).2 hp'
    have i2 : p % m < m := Nat.mod_lt _ hmp
    have j1 : q / m < n := (Nat.div_lt_iff_lt_mul hmp).2 hq'
    have j2 : q % m < m := Nat.mod_lt _ hmp
    have e1 : p / m = q / m := by
      rcases Nat.lt_trichotomy (p / m) (q / m) with g | g | g
      · exact (spot_one hK hL hd hS hn hKn i1 j1 g c1 h1.1.1 h2.1.2).elim
      · exact g
      · exact (spot_one hK hL hd hS hn hKn j1 i1 g c1 h2.1.1 h1.1.2).elim
    have e2 : p % m = q % m := by
      rcases Nat.lt_trichotomy (p % m) (q % m) with g | g | g
      · exact (spot_one hK hW he hT hm hKm i2 j2 g c2 h1.2.1 h2.2.2).elim
      · exact g
      · exact (spot_one hK hW he hT hm hKm j2 i2 g c2 h2.2.1 h1.2.2).elim
    rw [← Nat.div_add_mod p m, ← Nat.div_add_mod q m, e1, e2])
  simpa using hp

end Go.Proofs.Ytolcpkpfndnkbaa
