/- A slice among the cells of a struct, opened. -/
import Derived.Test.YtofjopdcbmaijaaOpen
namespace Go.Proofs.Ytofjopdcbmaijaa
open Go.ChangeShapes Go.WideShapes Go.ChangeAt Go.RowKit Go.Deep
set_option maxRecDepth 20000

section
variable {H : Type} {enc : TypeId × Value → H} {w : World} {base : Nat} {spare : Nat → Bool} {held : Bool}

set_option maxRecDepth 100000 in
/-- A slice among the cells of a struct. -/
theorem cells_slice_of {α : Type} {e t : TypeId} {n : Nat} {enc' : α → List Value} (hn : 0 < n) (ht : Try.prog.underlying t = some (.slice e)) (hC : Try.prog.cellsOf e = n)
    (hel : ∀ (fuel : Nat) (cs : List Value) (x : DataW H × List MemPlace), DataW.trod enc Try.prog w base spare held fuel e cs = some x → ∃ y : α, cs = enc' y)
    {fuel : Nat} {cs : List Value} {x : DataW H × List MemPlace} (hf : DataW.trod enc Try.prog w base spare held fuel t cs = some x) :
    ∃ (l : List α) (a : Option Addr) (cap : Nat), cs = [.slice a l.length cap] ∧ l.length ≤ cap ∧ cap ≤ 9223372036854775807 ∧
      ∀ i (hi : i < l.length), ∃ b off, a = some ⟨b, off, none⟩ ∧ (enc' l[i]).length = n ∧ ∀ j, j < n → w.cell? ⟨b, off + i * n + j, none⟩ = (enc' l[i])[j]? := by
  rcases open_slice ht hf with ⟨hcs, _⟩ | ⟨a', len, cap, m, n', D, Pl, hcs, hb, hl, hm, hmm, hx, hi⟩
  · exact ⟨[], none, 0, hcs, Nat.le_refl _, by omega, fun i hi => absurd hi (by simp)⟩
  · have hle : len ≤ m := by rw [hmm]; split <;> omega
    unfold maxLen at hm
    have hall : ∀ i, i < len → ∃ y : α, w.cells? base (a'.add (i * n)) n = some (enc' y) := fun i hil => by
      obtain ⟨cs', hc, ht'⟩ := hi i (by omega)
      rw [hC] at hc
      obtain ⟨y, rfl⟩ := hel _ _ _ ht'
      exact ⟨y, hc⟩
    rcases Nat.eq_zero_or_pos len with rfl | hpos
    · exact ⟨[], some a', cap, hcs, Nat.zero_le _, hm, fun i hi => absurd hi (by simp)⟩
    · obtain ⟨y0, hy0⟩ := hall 0 hpos
      have hsp : a'.spot = none := by
        obtain ⟨_, hlen, hat⟩ := World.cells?_some hy0
        have h0 := hat 0 hn
        have : (enc' y0)[0]? = some ((enc' y0)[0]'(by omega)) := List.getElem?_eq_getElem (by omega)
        rw [this] at h0
        simpa [Addr.add] using spot_none h0
      haveI : Inhabited α := ⟨y0⟩
      obtain ⟨f, hf⟩ := choose_lt hall
      refine ⟨(List.range len).map f, some a', cap, by simpa using hcs, by simpa using hl, hm, fun i hil => ⟨a'.block, a'.off, ?_, ?_, fun j hj => ?_⟩⟩
      · obtain ⟨x, y, z⟩ := a'; simp only at hsp; subst hsp; rfl
      · obtain ⟨_, hlen, _⟩ := World.cells?_some (hf i (by simpa using hil))
        simpa using hlen
      · obtain ⟨_, hlen, hat⟩ := World.cells?_some (hf i (by simpa using hil))
        have := hat j hj
        rw [add_off hsp, add_off rfl] at this
        simpa [Nat.add_assoc] using this
end
end Go.Proofs.Ytofjopdcbmaijaa
