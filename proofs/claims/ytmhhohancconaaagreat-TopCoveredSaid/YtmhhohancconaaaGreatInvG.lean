/- A drawn region by what each operation leaves: values that no order changes, and for the special operations a part of one's own over the world. -/
import Derived.Test.YtmhhohancconaaaGreatInvK
namespace Go.Proofs.YtmhhohancconaaaGreat
open Go Go.RowKit
set_option maxRecDepth 20000
section
variable {P : Program}

/-- A part over what the special operations sp have left, and over the world: it looks at no other operation, and stays when memory is made. -/
structure PartG (sp : List Nat) (J : Array Bool → List Value → World → Prop) : Prop where
  same : ∀ L vs L' vs' W, (∀ k ∈ sp, L.getD k true = L'.getD k true ∧ vs.getD k undef = vs'.getD k undef) → J L vs W → J L' vs' W
  grow : ∀ L vs W x, J L vs W → J L vs (ext W x)
structure InvG (V : List Value) (sp : List Nat) (J : Array Bool → List Value → World → Prop) (vs : List Value) (L : Array Bool) (W : World) : Prop where
  val : ∀ i, i < vs.length → i ∉ sp → L.getD i true = true → vs.getD i undef = V.getD i undef
  part : J L vs W
variable {V : List Value} {sp : List Nat} {J : Array Bool → List Value → World → Prop} {W : World} {vs : List Value} {L : Array Bool}
theorem InvG.grow (h : InvG V sp J vs L W) (hp : PartG sp J) (x : World) : InvG V sp J vs L (ext W x) := ⟨h.val, hp.grow _ _ _ _ h.part⟩
theorem InvG.up (h : InvG V sp J vs L W) (hp : PartG sp J) (i : Nat) (hs : i ∉ sp) (hi : i < vs.length) {u : Value} (hu : u = V.getD i undef) : InvG V sp J (vs.set i u) (L.setIfInBounds i true) W where
  val := fun j jl js hj => by
    rw [List.length_set] at jl
    by_cases hij : i = j
    · subst hij
      rw [getD_set_self' hi, hu]
    · rw [getD_other hij] at hj
      rw [getD_set_other hij]
      exact h.val j jl js hj
  part := hp.same _ _ _ _ _ (fun k hk => by
    have hne : i ≠ k := fun e => hs (e ▸ hk)
    exact ⟨(getD_other hne).symm, (getD_set_other hne u).symm⟩) h.part
theorem InvG.spec (h : InvG V sp J vs L W) (i : Nat) (hs : i ∈ sp) (u : Value) {W' : World} (hJ : J (L.setIfInBounds i true) (vs.set i u) W') : InvG V sp J (vs.set i u) (L.setIfInBounds i true) W' where
  val := fun j jl js hj => by
    rw [List.length_set] at jl
    have hij : i ≠ j := fun e => js (e ▸ hs)
    rw [getD_other hij] at hj
    rw [getD_set_other hij]
    exact h.val j jl js hj
  part := hJ
/-- The same for an operation that writes no slot. -/
theorem InvG.spec0 (h : InvG V sp J vs L W) (i : Nat) (hs : i ∈ sp) {W' : World} (hJ : J (L.setIfInBounds i true) vs W') : InvG V sp J vs (L.setIfInBounds i true) W' where
  val := fun j jl js hj => by
    have hij : i ≠ j := fun e => js (e ▸ hs)
    rw [getD_other hij] at hj
    exact h.val j jl js hj
  part := hJ

theorem wp_region_G {id : Nat} {Q : Exit → Act → World → Prop} {a : Act} {w : World} {l : List Oper} (V : List Value) (sp : List Nat) (J : Array Bool → List Value → World → Prop) (hm : P.follows .mixedOrders = true) (hf : forwardB .any l.toArray = true)
    (h0 : ∀ vs, vs.length = l.length → J (Array.replicate l.length false) vs w.drew)
    (hstep : ∀ L vs W i, vs.length = l.length → InvG V sp J vs L W → i ∈ Region.ready .any l.toArray L → wpOp P l.toArray Q i (fun a' W' => ∃ vs', vs'.length = l.length ∧ a' = putAll l vs' a ∧ InvG V sp J vs' (L.setIfInBounds i true) W') (putAll l vs a) W)
    (hend : ∀ vs L W, vs.length = l.length → InvG V sp J vs L W → (∀ j, j < l.length → L.getD j true = true) → Q .normal (putAll l vs a) W) :
    (Code.region id l.toArray true).wp P Q a w := by
  refine wp_region_inv (fun L a' W => ∃ vs, vs.length = l.length ∧ a' = putAll l vs a ∧ InvG V sp J vs L W) hm hf ?_ ?_ ?_
  · have hl : (l.map (slotOf a)).length = l.length := List.length_map _
    refine ⟨l.map (slotOf a), hl, (putAll_slots l a).symm, fun i hi _ e => ?_, h0 _ hl⟩
    rw [hl] at hi
    simp [Array.getD, hi] at e
  · rintro L _ W i ⟨vs, h1, rfl, hJ⟩ hi
    exact hstep L vs W i h1 hJ hi
  · rintro L _ W ⟨vs, h1, rfl, hJ⟩ hall
    exact hend vs L W h1 hJ hall
end
end Go.Proofs.YtmhhohancconaaaGreat
