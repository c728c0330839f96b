/- A call of a function value that is handed each element: a loop body's yield, or a closure. -/
import Derived.Test.YtmhhohancconaaaGreatBoxK
import Derived.RangeFuncFrom
import Derived.RangeFuncNested
import Derived.RangeFuncBound
import Derived.RangeFuncCalls
import Derived.RangeFuncLeaves
import Derived.OwnWalkIn
import Derived.TacticsInMore
namespace Go.Proofs.YtmhhohancconaaaGreat
open Go.RowKit
set_option maxRecDepth 20000

/-- What a call of the function value yv brings about. -/
def YCall (yv : Value) (args : Array Value) (W : World) (R : Ending → World → Prop) : Prop :=
  (∃ l m, yv = .func (.yield l) #[] #[] ∧ YieldAt Fence.wide m Tryz.prog l args W R) ∨ (∃ g caps, yv = .func (.func g) #[] caps ∧ Enters g ∧ Calls Tryz.prog g (args ++ caps) W R)

theorem roundIn_any {n m : Nat} {P : Program} {l : Nat} {f : FuncId} {tmps : Array Value} {assign body : Code} {w : World} {R : Ending → World → Prop} (h : RoundIn Fence.wide n P l f tmps assign body w R) : RoundIn Fence.wide m P l f tmps assign body w R :=
  ⟨h.1, fun c cs _ => h.2 c cs (room_wide _)⟩

/-- Whatever cells lie in blocks below M but g, and all below n₀, lie as they lay. -/
structure Keeps (n₀ g M : Nat) (W W' : World) : Prop where
  below : Below n₀ W W'
  size : W.heap.size ≤ W'.heap.size
  cells : ∀ k, k < M → k ≠ g → (∃ cs t fr, W.heap[k]? = some (.cells cs t fr)) → W'.heap[k]? = W.heap[k]?

theorem Keeps.refl (n₀ g M : Nat) (W : World) : Keeps n₀ g M W W := ⟨Below.refl _ _, Nat.le_refl _, fun _ _ _ _ => rfl⟩
theorem Keeps.trans {n₀ g M : Nat} {A B C : World} (h : Keeps n₀ g M A B) (k : Keeps n₀ g M B C) : Keeps n₀ g M A C :=
  ⟨h.below.trans k.below, Nat.le_trans h.size k.size, fun b hm hb ⟨cs, t, fr, hc⟩ => by
    have h1 := h.cells b hm hb ⟨cs, t, fr, hc⟩
    exact (k.cells b hm hb ⟨cs, t, fr, by rw [h1, hc]⟩).trans h1⟩
theorem Keeps.of_grown {n₀ g M : Nat} {A B : World} (hn : n₀ ≤ A.heap.size) (h : Below A.heap.size A B) : Keeps n₀ g M A B :=
  ⟨h.mono hn, h.size, fun k _ _ ⟨_, _, _, hc⟩ => h.block k (Array.getElem?_eq_some_iff.1 hc).1⟩
theorem Keeps.own {n₀ g M : Nat} {W W' : World} {base : Nat} {e : TypeId} {s : Nat} {v : Value} {n : Nat} {xs : List Value} (h : Keeps n₀ g M W W') (ho : W.ownsRow base e s v n xs) (hm : ∀ b, v.ownBlock = some b → b < M) (hg : v.ownBlock ≠ some g) : W'.ownsRow base e s v n xs := by
  refine ⟨ho.1, ?_⟩
  rcases ho.2 with hn | ⟨b, cap, cur, rfl, hb, hbb, rest⟩
  · exact .inl hn
  · exact .inr ⟨b, cap, cur, rfl, hb, (h.cells b (hm b rfl) (fun e => hg (by rw [← e]; rfl)) ⟨_, _, _, hbb⟩).trans hbb, rest⟩
theorem Keeps.cell {n₀ g M : Nat} {W W' : World} (h : Keeps n₀ g M W W') {a : Addr} {v : Value} (hc : W.cell? a = some v) (hm : a.block < M) (hg : a.block ≠ g) : W'.cell? a = some v := by
  refine (World.cell?_of_block (h.cells a.block hm hg ?_)).trans hc
  unfold World.cell? at hc
  split at hc
  · rename_i cs t fr hh; exact ⟨_, _, _, hh⟩
  · cases hc

end Go.Proofs.YtmhhohancconaaaGreat
