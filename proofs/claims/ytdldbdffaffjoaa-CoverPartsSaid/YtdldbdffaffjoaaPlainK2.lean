/- A single box; the place of the greatest number. -/
import Derived.Test.YtdldbdffaffjoaaPlainK
namespace Go.Proofs.Ytdldbdffaffjoaa
open Go.RowKit

theorem topC_eq {p : Nat → Bool} (hm : ∀ a b, a ≤ b → p b = true → p a = true) {v : Nat} (hv : v < 2097152) (h1 : p v = true) (h2 : p (v + 1) = false) : topC p = v := by
  unfold topC
  rw [topN_of (k := v + 1) (by omega) (fun _ => h1) (fun j q1 _ => by
    cases hp : p j
    · rfl
    · rw [hm (v + 1) j q1 hp] at h2; exact absurd h2.symm Bool.false_ne_true)]
  omega
theorem contains_one (B : Bx) {b : Bx} (h : Ordd b) : containsS [B] [] b = containsB B b := by
  obtain ⟨h1, h2, h3⟩ := h
  rw [Bool.eq_iff_iff, containsS_iff, covers_iff h1 h2 h3, contains_iff]
  constructor
  · rintro ⟨_, hc⟩
    obtain ⟨a, ha, ea⟩ := hc (2 * b.lx) (2 * b.ly) (2 * b.lz) ⟨by omega, by omega, by omega⟩
    obtain ⟨c, hc', ec⟩ := hc (2 * b.hx) (2 * b.hy) (2 * b.hz) ⟨by omega, by omega, by omega⟩
    obtain rfl := List.mem_singleton.1 ha
    obtain rfl := List.mem_singleton.1 hc'
    unfold inB at ea ec
    omega
  · intro hc
    refine ⟨fun h hm => absurd hm (List.not_mem_nil), fun P Q R hp => ⟨B, List.mem_singleton_self _, ?_⟩⟩
    unfold inB at hp ⊢
    omega
theorem cover_one {B b : Bx} {v : Nat} (h : Ordd b) (hv : v < 2097152) (h1 : containsB B (grownX b v) = true) (h2 : containsB B (grownX b (v + 1 : Nat)) = false) : coverC [B] [] b = v :=
  topC_eq (cover_down h) hv (by rw [contains_one B (grown_le h (Nat.le_refl _)).1]; exact h1) (by rw [contains_one B (grown_le h (Nat.le_refl _)).1]; exact h2)
theorem side_one {B b : Bx} {v : Nat} (i : Nat) (h : Ordd b) (hv : v < 2097152) (h1 : containsB B (sideX b i v) = true) (h2 : containsB B (sideX b i (v + 1 : Nat)) = false) : sideC [B] [] b i = v :=
  topC_eq (side_down h i) hv (by rw [contains_one B (side_le h i (Nat.le_refl _)).1]; exact h1) (by rw [contains_one B (side_le h i (Nat.le_refl _)).1]; exact h2)

end Go.Proofs.Ytdldbdffaffjoaa
