/- The plain law of covering: halves, points, further boxes. -/
import Derived.Test.YtmoechhfjmemaaaGreatPlainA
namespace Go.Proofs.YtmoechhfjmemaaaGreat
open Go.RowKit
set_option maxRecDepth 20000

def leftX (b : Bx) (p : Int) : Bx := ⟨b.lx, b.ly, b.lz, p, b.hy, b.hz⟩
def rightX (b : Bx) (p : Int) : Bx := ⟨p, b.ly, b.lz, b.hx, b.hy, b.hz⟩
def ptX (x y z : Int) : Bx := ⟨x, y, z, x, y, z⟩

theorem bool_eq_iff {a b : Bool} : a = b ↔ (a = true ↔ b = true) := by cases a <;> cases b <;> simp

theorem covers_halves {l : List Bx} {b : Bx} {p : Int} (h0 : b.lx ≤ b.hx) (h1 : b.ly ≤ b.hy) (h2 : b.lz ≤ b.hz) (hp : b.lx ≤ p ∧ p ≤ b.hx) :
    coversB l b = (coversB l (leftX b p) && coversB l (rightX b p)) := by
  rw [bool_eq_iff, Bool.and_eq_true, covers_iff h0 h1 h2, covers_iff (b := leftX b p) hp.1 h1 h2, covers_iff (b := rightX b p) hp.2 h1 h2]
  constructor
  · intro h
    refine ⟨fun P Q R ⟨hP, hQ, hR⟩ => h P Q R ⟨?_, hQ, hR⟩, fun P Q R ⟨hP, hQ, hR⟩ => h P Q R ⟨?_, hQ, hR⟩⟩
    · simp only [leftX] at hP; omega
    · simp only [rightX] at hP; omega
  · intro ⟨hl, hr⟩ P Q R ⟨hP, hQ, hR⟩
    by_cases hc : P ≤ 2 * p
    · exact hl P Q R ⟨by simp only [leftX]; omega, hQ, hR⟩
    · exact hr P Q R ⟨by simp only [rightX]; omega, hQ, hR⟩
theorem covers_point {l : List Bx} (x y z : Int) : coversB l (ptX x y z) = l.any fun c => containsB c (ptX x y z) := by
  rw [bool_eq_iff, covers_iff (b := ptX x y z) (Int.le_refl _) (Int.le_refl _) (Int.le_refl _), List.any_eq_true]
  constructor
  · intro h
    obtain ⟨a, ha, hP, hQ, hR⟩ := h (2 * x) (2 * y) (2 * z) ⟨by simp [ptX], by simp [ptX], by simp [ptX]⟩
    refine ⟨a, ha, contains_iff.2 ?_⟩
    simp only [ptX]
    omega
  · intro ⟨a, ha, hc⟩ P Q R ⟨hP, hQ, hR⟩
    have := contains_iff.1 hc
    simp only [ptX] at hP hQ hR this
    exact ⟨a, ha, by omega, by omega, by omega⟩
theorem covers_at {l : List Bx} {b : Bx} {x y z : Int} (h0 : b.lx ≤ b.hx) (h1 : b.ly ≤ b.hy) (h2 : b.lz ≤ b.hz) (hx : b.lx ≤ x ∧ x ≤ b.hx) (hy : b.ly ≤ y ∧ y ≤ b.hy) (hz : b.lz ≤ z ∧ z ≤ b.hz) (h : coversB l b = true) :
    coversB l (ptX x y z) = true := by
  rw [covers_iff h0 h1 h2] at h
  rw [covers_iff (b := ptX x y z) (Int.le_refl _) (Int.le_refl _) (Int.le_refl _)]
  intro P Q R ⟨hP, hQ, hR⟩
  simp only [ptX] at hP hQ hR
  exact h P Q R ⟨by omega, by omega, by omega⟩
theorem covers_more {l m : List Bx} {b : Bx} (h0 : b.lx ≤ b.hx) (h1 : b.ly ≤ b.hy) (h2 : b.lz ≤ b.hz) (h : coversB l b = true) : coversB (l ++ m) b = true := by
  rw [covers_iff h0 h1 h2] at h ⊢
  intro P Q R hb
  obtain ⟨a, ha, hc⟩ := h P Q R hb
  exact ⟨a, List.mem_append_left _ ha, hc⟩
theorem covers_rest {l : List Bx} {b : Bx} {p : Int} (h0 : b.lx ≤ b.hx) (h1 : b.ly ≤ b.hy) (h2 : b.lz ≤ b.hz) (hp : b.lx ≤ p ∧ p ≤ b.hx) (h : coversB l (rightX b p) = true) : coversB (l ++ [leftX b p]) b = true := by
  rw [covers_iff (b := rightX b p) hp.2 h1 h2] at h
  rw [covers_iff h0 h1 h2]
  intro P Q R ⟨hP, hQ, hR⟩
  by_cases hc : P ≤ 2 * p
  · exact ⟨_, List.mem_append_right _ (List.mem_singleton.2 rfl), by simp only [leftX]; omega, hQ, hR⟩
  · obtain ⟨a, ha, hh⟩ := h P Q R ⟨by simp only [rightX]; omega, hQ, hR⟩
    exact ⟨a, List.mem_append_left _ ha, hh⟩
theorem covers_own {b c : Bx} (h0 : b.lx ≤ b.hx) (h1 : b.ly ≤ b.hy) (h2 : b.lz ≤ b.hz) (h : containsB c b = true) : coversB [c] b = true := by
  rw [covers_iff h0 h1 h2]
  have := contains_iff.1 h
  intro P Q R ⟨hP, hQ, hR⟩
  exact ⟨c, List.mem_singleton.2 rfl, by omega, by omega, by omega⟩

end Go.Proofs.YtmoechhfjmemaaaGreat
