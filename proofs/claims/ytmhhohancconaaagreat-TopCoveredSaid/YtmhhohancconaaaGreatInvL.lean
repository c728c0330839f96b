/- A drawn region of quiet operations with one late store into a block: what stands while it runs. -/
import Derived.Test.YtmhhohancconaaaGreatInvG
namespace Go.Proofs.YtmhhohancconaaaGreat
open Go Go.RowKit
set_option maxRecDepth 20000

structure LtJ (T : TypeId) (W1 : World) (G kS : Nat) (z fin : Array Value) (L : Array Bool) (_vs : List Value) (W : World) : Prop where
  blk0 : L.getD kS true = false → Blk W G z T
  blk1 : L.getD kS true = true → Blk W G fin T
  os : W.os = W1.os
  tape : W.tape = W1.tape
  output : W.output = W1.output
  size : W1.heap.size ≤ W.heap.size
  frame : ∀ k, k < W1.heap.size → k ≠ G → W.heap[k]? = W1.heap[k]?
section
variable {T : TypeId} {W1 W W' : World} {G kS : Nat} {z fin : Array Value} {L : Array Bool} {vs : List Value}
theorem LtJ.part : PartG [kS] (LtJ T W1 G kS z fin) :=
  ⟨fun L vs L' vs' W hk h => by
    have s := (hk kS (by simp)).1
    exact ⟨by rw [← s]; exact h.blk0, by rw [← s]; exact h.blk1, h.os, h.tape, h.output, h.size, h.frame⟩,
  fun L vs W x h => by
    have hb := below_ext W x
    exact ⟨fun e => (h.blk0 e).below hb, fun e => (h.blk1 e).below hb, hb.os.trans h.os, hb.tape.trans h.tape, hb.output.trans h.output, Nat.le_trans h.size hb.size, fun k h1 h2 => by rw [hb.block k (Nat.lt_of_lt_of_le h1 h.size)]; exact h.frame k h1 h2⟩⟩
theorem LtJ.init (hL : L.getD kS true = false) (hb : Blk W1 G z T) : LtJ T W1 G kS z fin L vs W1.drew :=
  ⟨fun _ => hb, fun e => (by rw [hL] at e; cases e), rfl, rfl, rfl, Nat.le_refl _, fun _ _ _ => rfl⟩
theorem LtJ.cell (h : LtJ T W1 G kS z fin L vs W) {a : Addr} {v : Value} (hc : W1.cell? a = some v) (hne : a.block ≠ G) : W.cell? a = some v := by
  rw [World.cell?_of_block (w := W1) (h.frame a.block (World.block_lt_of_cell? W1 a hc) hne)]
  exact hc
theorem LtJ.store (h : LtJ T W1 G kS z fin L vs W) (hoth : ∀ k, k ≠ G → W'.heap[k]? = W.heap[k]?) (hs : W'.heap.size = W.heap.size) (hr : W'.os = W.os ∧ W'.tape = W.tape ∧ W'.output = W.output) (hb : Blk W' G fin T) : LtJ T W1 G kS z fin (L.setIfInBounds kS true) vs W' :=
  ⟨fun e => (by rw [getD_self] at e; cases e), fun _ => hb, hr.1.trans h.os, hr.2.1.trans h.tape, hr.2.2.trans h.output, by rw [hs]; exact h.size, fun k h1 h2 => by rw [hoth k h2]; exact h.frame k h1 h2⟩
theorem repL {n k : Nat} (h : k < n) : (Array.replicate n false).getD k true = false := by simp [Array.getD, h]
end
/-- A block's cells are written one after the other, from the first on. -/
def putL (W : World) (G : Nat) : Nat → List Value → World
  | _, [] => W
  | i, v :: l => putL (W.setCell ⟨G, i, none⟩ v) G (i + 1) l
theorem putL_other (G : Nat) (l : List Value) (W : World) (i k : Nat) (hk : k ≠ G) : (putL W G i l).heap[k]? = W.heap[k]? := by
  induction l generalizing W i with
  | nil => rfl
  | cons v l ih => rw [putL, ih, Below.heap_setCell _ _ _ _ hk]
theorem putL_size (G : Nat) (l : List Value) (W : World) (i : Nat) : (putL W G i l).heap.size = W.heap.size := by
  induction l generalizing W i with
  | nil => rfl
  | cons v l ih => rw [putL, ih]; simp [World.setCell]
theorem putL_rest (G : Nat) (l : List Value) (W : World) (i : Nat) : (putL W G i l).os = W.os ∧ (putL W G i l).tape = W.tape ∧ (putL W G i l).output = W.output := by
  induction l generalizing W i with
  | nil => exact ⟨rfl, rfl, rfl⟩
  | cons v l ih => rw [putL]; exact ih _ _
theorem putL_blk (G : Nat) (T : TypeId) (l : List Value) (W : World) (i : Nat) (cs : Array Value) (hb : Blk W G cs T) (hn : cs.size = i + l.length) : Blk (putL W G i l) G (cs.toList.take i ++ l).toArray T := by
  induction l generalizing W i cs with
  | nil =>
    have : cs.toList.take i = cs.toList := List.take_of_length_le (by simp at hn; simp; omega)
    rw [this, List.append_nil]
    exact hb
  | cons v l ih =>
    have := ih (W.setCell ⟨G, i, none⟩ v) (i + 1) (cs.setIfInBounds i v) (hb.set i v) (by simp at hn ⊢; omega)
    rw [putL]
    have e : (cs.setIfInBounds i v).toList.take (i + 1) ++ l = cs.toList.take i ++ v :: l := by
      have hi : i < cs.toList.length := by simp at hn; simp; omega
      rw [Array.toList_setIfInBounds, List.take_succ_eq_append_getElem (by simpa using hi), List.getElem_set_self, List.take_set, List.append_assoc, List.set_eq_of_length_le (by rw [List.length_take]; omega)]
      rfl
    rw [e] at this
    exact this
/-- A store of a whole block: what it holds then. -/
theorem putL_all {G : Nat} {T : TypeId} {l : List Value} {W : World} {cs : Array Value} (hb : Blk W G cs T) (hn : cs.size = l.length) : Blk (putL W G 0 l) G l.toArray T := by
  have := putL_blk G T l W 0 cs hb (by omega)
  simpa using this
end Go.Proofs.YtmhhohancconaaaGreat
