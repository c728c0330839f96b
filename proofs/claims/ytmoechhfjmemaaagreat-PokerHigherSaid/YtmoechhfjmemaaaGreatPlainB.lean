/- The cuts of the reference, one after the other, are those of the program. -/
import Derived.Test.YtmoechhfjmemaaaGreatPlainA
namespace Go.Proofs.YtmoechhfjmemaaaGreat
open Go.RowKit
set_option maxRecDepth 20000

def endsL (l : List Bx) (k : Int) : List Int := l.flatMap fun x => [x.lo k, x.hi k]
def stepN (last nx n : Int) : Int := if last < n ∧ n < nx then n else nx
def nextL (last hi : Int) (zs : List Int) : Int := zs.foldl (stepN last) hi

theorem nextL_spec (last : Int) (zs : List Int) (hi : Int) (h : last < hi) :
    last < nextL last hi zs ∧ nextL last hi zs ≤ hi ∧ (nextL last hi zs = hi ∨ nextL last hi zs ∈ zs) ∧ ∀ n ∈ zs, last < n → nextL last hi zs ≤ n := by
  induction zs generalizing hi with
  | nil => exact ⟨h, Int.le_refl _, .inl rfl, fun n hn => by simp at hn⟩
  | cons z zs ih =>
    have hs : last < stepN last hi z ∧ stepN last hi z ≤ hi ∧ (stepN last hi z = hi ∨ stepN last hi z = z) ∧ (last < z → stepN last hi z ≤ z) := by
      unfold stepN; split <;> omega
    obtain ⟨s1, s2, s3, s4⟩ := hs
    obtain ⟨i1, i2, i3, i4⟩ := ih (stepN last hi z) s1
    show last < nextL last (stepN last hi z) zs ∧ nextL last (stepN last hi z) zs ≤ hi ∧ (nextL last (stepN last hi z) zs = hi ∨ nextL last (stepN last hi z) zs ∈ z :: zs) ∧ ∀ n ∈ z :: zs, last < n → nextL last (stepN last hi z) zs ≤ n
    refine ⟨i1, by omega, ?_, ?_⟩
    · rcases i3 with e | e
      · rw [e]
        rcases s3 with f | f
        · exact .inl f
        · exact .inr (by rw [f]; exact List.mem_cons_self ..)
      · exact .inr (List.mem_cons_of_mem _ e)
    · intro n hn hl
      rcases List.mem_cons.1 hn with rfl | hn
      · have := s4 hl; omega
      · exact i4 n hn hl

theorem nextL_snoc (last hi : Int) (zs ys : List Int) : nextL last hi (zs ++ ys) = nextL last (nextL last hi zs) ys := by unfold nextL; rw [List.foldl_append]
theorem endsL_take (l : List Bx) (k : Int) (j : Nat) (h : j < l.length) : endsL (l.take (j + 1)) k = endsL (l.take j) k ++ [l[j].lo k, l[j].hi k] := by
  unfold endsL; rw [List.take_succ_eq_append_getElem h, List.flatMap_append]; simp
theorem mem_endsL {l : List Bx} {k n : Int} : n ∈ endsL l k ↔ ∃ x ∈ l, n = x.lo k ∨ n = x.hi k := by
  unfold endsL; simp [List.mem_flatMap]

def cutsB (l : List Bx) (b : Bx) (k : Int) : List Int := cutsL (atL l (b.lo k) (b.hi k) k)

theorem mono_get {C : List Int} (hC : C.Pairwise (· < ·)) {i j : Nat} (hi : i < C.length) (hj : j < C.length) : i < j ↔ C[i] < C[j] := by
  have hp := List.pairwise_iff_getElem.1 hC
  constructor
  · intro h; exact hp i j hi hj h
  · intro h
    rcases Nat.lt_trichotomy i j with h1 | h1 | h1
    · exact h1
    · subst h1; omega
    · have := hp j i hj hi h1; omega

theorem cutsB_length (l : List Bx) (b : Bx) (k : Int) : (cutsB l b k).length ≤ 2 + 2 * l.length := by
  unfold cutsB cutsL
  have h1 := atL_length l (b.lo k) (b.hi k) k
  have h2 := length_sorted (atL l (b.lo k) (b.hi k) k)
  have h3 := Lib.compact_length_le (sorted (atL l (b.lo k) (b.hi k) k))
  omega

theorem cutsB_facts {l : List Bx} {b : Bx} {k : Int} (hb : b.lo k ≤ b.hi k) :
    ∃ h0 : 0 < (cutsB l b k).length, (cutsB l b k)[0] = b.lo k ∧ ∀ q (hq : q < (cutsB l b k).length),
      (∀ hq1 : q + 1 < (cutsB l b k).length, (cutsB l b k)[q] < b.hi k ∧ (cutsB l b k)[q + 1] = nextL (cutsB l b k)[q] (b.hi k) (endsL l k)) ∧
      (q + 1 = (cutsB l b k).length → (cutsB l b k)[q] = b.hi k) := by
  have hs := cutsL_spec (atL l (b.lo k) (b.hi k) k)
  have hm : ∀ n, n ∈ cutsB l b k ↔ n = b.lo k ∨ n = b.hi k ∨ ∃ x ∈ l, (b.lo k < n ∧ n < b.hi k) ∧ (n = x.lo k ∨ n = x.hi k) := fun n => by
    unfold cutsB; rw [hs.1 n, mem_atL]
  have hC : (cutsB l b k).Pairwise (· < ·) := hs.2
  clear hs
  generalize cutsB l b k = C at hm hC
  have hin : ∀ n ∈ C, b.lo k ≤ n ∧ n ≤ b.hi k := by
    intro n hn
    rcases (hm n).1 hn with rfl | rfl | ⟨x, _, h, _⟩ <;> omega
  obtain ⟨mh, hmh, eh⟩ := List.getElem_of_mem ((hm (b.hi k)).2 (.inr (.inl rfl)))
  obtain ⟨ml, hml, el⟩ := List.getElem_of_mem ((hm (b.lo k)).2 (.inl rfl))
  have h0 : 0 < C.length := by omega
  refine ⟨h0, ?_, ?_⟩
  · rcases Nat.eq_zero_or_pos ml with e | e
    · subst e; exact el
    · have h1 := (mono_get hC h0 hml).1 e
      have h2 := (hin _ (List.getElem_mem h0)).1
      omega
  · intro q hq
    constructor
    · intro hq1
      have h1 := (mono_get hC hq hq1).1 (by omega)
      have h2 := hin _ (List.getElem_mem hq1)
      have h3 := hin _ (List.getElem_mem hq)
      have hlt : C[q] < b.hi k := by omega
      refine ⟨hlt, ?_⟩
      obtain ⟨n1, n2, n3, n4⟩ := nextL_spec C[q] (endsL l k) (b.hi k) hlt
      apply Int.le_antisymm
      · have hr : nextL C[q] (b.hi k) (endsL l k) ∈ C := by
          rcases n3 with e | e
          · rw [e]; exact (hm _).2 (.inr (.inl rfl))
          · rcases Int.lt_or_eq_of_le n2 with e2 | e2
            · obtain ⟨x, hx, h⟩ := mem_endsL.1 e
              exact (hm _).2 (.inr (.inr ⟨x, hx, ⟨by omega, e2⟩, h⟩))
            · rw [e2]; exact (hm _).2 (.inr (.inl rfl))
        obtain ⟨m, hm', e⟩ := List.getElem_of_mem hr
        have := (mono_get hC hq hm').2 (by omega)
        rcases Nat.lt_or_ge (q + 1) m with h | h
        · have := (mono_get hC hq1 hm').1 h; omega
        · have : m = q + 1 := by omega
          subst this; omega
      · rcases (hm _).1 (List.getElem_mem hq1) with e | e | ⟨x, hx, h, e⟩
        · omega
        · omega
        · exact n4 _ (mem_endsL.2 ⟨x, hx, e⟩) (by omega)
    · intro hq1
      rcases Nat.lt_or_ge mh q with h | h
      · have h1 := (mono_get hC hmh hq).1 h
        have h2 := (hin _ (List.getElem_mem hq)).2
        omega
      · have : mh = q := by omega
        subst this; exact eh

/-- The parts along an axis, by the cuts' numbers. -/
theorem pairsL_len (C : List Int) : (pairsL C).length = C.length - 1 := by
  induction C with
  | nil => rfl
  | cons a C ih => cases C with
    | nil => rfl
    | cons b C => simp only [pairsL, List.length_cons] at ih ⊢; omega
theorem pairsL_get (C : List Int) (i : Nat) (h : i < (pairsL C).length) (h1 : i < C.length) (h2 : i + 1 < C.length) : (pairsL C)[i] = (C[i], C[i + 1]) := by
  induction C generalizing i with
  | nil => simp at h1
  | cons a C ih => cases C with
    | nil => simp at h2
    | cons b C =>
      cases i with
      | zero => rfl
      | succ i => 
        have h' : i < (pairsL (b :: C)).length := by rw [pairsL_len]; simp only [List.length_cons] at h2 ⊢; omega
        have := ih i h' (by simp only [List.length_cons] at h2 ⊢; omega) (by simp only [List.length_cons] at h2 ⊢; omega)
        simpa [pairsL] using this

theorem partsL_cuts {l : List Bx} {b : Bx} {k : Int} (hb : b.lo k ≤ b.hi k) : (partsL l b k).length = max 1 ((cutsB l b k).length - 1) ∧
    ∀ i (h : i < (partsL l b k).length) (h1 : i < (cutsB l b k).length) (h2 : min (i + 1) ((cutsB l b k).length - 1) < (cutsB l b k).length),
      (partsL l b k)[i] = ((cutsB l b k)[i], (cutsB l b k)[min (i + 1) ((cutsB l b k).length - 1)]) := by
  obtain ⟨h0, e0, hq⟩ := cutsB_facts (l := l) hb
  by_cases he : b.lo k = b.hi k
  · have hl : (cutsB l b k).length = 1 := by
      rcases Nat.lt_or_ge 1 (cutsB l b k).length with h | h
      · have := ((hq 0 h0).1 h).1; omega
      · omega
    have hp : partsL l b k = [(b.lo k, b.hi k)] := by unfold partsL; rw [if_pos he]
    refine ⟨by rw [hp, hl]; rfl, ?_⟩
    intro i h h1 h2
    have hi : i = 0 := by omega
    subst hi
    have e2 : (cutsB l b k)[min (0 + 1) ((cutsB l b k).length - 1)] = b.lo k := by
      have : min (0 + 1) ((cutsB l b k).length - 1) = 0 := by omega
      simp only [this]; exact e0
    rw [e2, e0]
    simp only [hp, List.getElem_cons_zero, ← he]
  · have hl : 1 < (cutsB l b k).length := by
      rcases Nat.lt_or_ge 1 (cutsB l b k).length with h | h
      · exact h
      · have := (hq 0 h0).2 (by omega); omega
    have hp : partsL l b k = pairsL (cutsB l b k) := by unfold partsL; rw [if_neg he]; rfl
    refine ⟨by rw [hp, pairsL_len]; omega, ?_⟩
    intro i h h1 h2
    have hi : i + 1 < (cutsB l b k).length := by rw [hp, pairsL_len] at h; omega
    have : min (i + 1) ((cutsB l b k).length - 1) = i + 1 := by omega
    simp only [this]
    have h' : i < (pairsL (cutsB l b k)).length := by rw [hp] at h; exact h
    have := pairsL_get _ i h' h1 hi
    simpa only [hp] using this
end Go.Proofs.YtmoechhfjmemaaaGreat
