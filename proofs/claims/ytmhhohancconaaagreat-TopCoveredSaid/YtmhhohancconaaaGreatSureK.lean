/- SureA, SureB, SureC, SureD in one text. -/
import Derived.Test.YtmhhohancconaaaGreatInvL
import Derived.Test.YtmhhohancconaaaGreatGapK4
import Derived.Test.YtmhhohancconaaaGreatExtK
import Derived.Deep.DeepCutAuto
import Derived.Test.YtmhhohancconaaaGreatTopA
import Derived.Test.YtmhhohancconaaaGreatCutK
namespace Go.Proofs.YtmhhohancconaaaGreat
open Go Go.RowKit
set_option maxRecDepth 20000

def barV (u : Value) : Array Value := #[.string ⟨#[97]⟩, .int .i64 10, .int .i64 2, .int .i64 0, u]
def runV : Array Value := #[.string ⟨#[97]⟩, .int .i64 1, .int .i64 2, .int .i64 50, .int .i64 50, .int .i64 100, .int .i64 0, .int .i64 30, .int .i64 0, .int .i64 2]
/-- A slice of one element in a block made since. -/
def OneAt (W1 W : World) (v : Value) (cs : Array Value) (T : TypeId) : Prop := ∃ g, v = .slice (some ⟨g, 0, none⟩) 1 1 ∧ W1.heap.size ≤ g ∧ Blk W g cs T
theorem OneAt.below {W1 W W' : World} {v : Value} {cs : Array Value} {T : TypeId} (h : OneAt W1 W v cs T) (hb : Below W.heap.size W W') : OneAt W1 W' v cs T := let ⟨g, h1, h2, h3⟩ := h; ⟨g, h1, h2, h3.below hb⟩
theorem OneAt.other {W1 W W' : World} {v : Value} {cs : Array Value} {T : TypeId} {G : Nat} (h : OneAt W1 W v cs T) (hG : G < W1.heap.size) (hoth : ∀ k, k ≠ G → W'.heap[k]? = W.heap[k]?) : OneAt W1 W' v cs T := let ⟨g, h1, h2, h3⟩ := h; ⟨g, h1, h2, h3.of_block (hoth g (by omega))⟩
structure SbJ (W1 : World) (G : Nat) (z fin : Array Value) (L : Array Bool) (vs : List Value) (W : World) : Prop where
  i1 : L.getD 1 true = true → OneAt W1 W (vs.getD 1 undef) #[.int .i64 300] 3
  i2 : L.getD 2 true = true → L.getD 1 true = true ∧ vs.getD 2 undef = .agg (barV (vs.getD 1 undef))
  i3 : L.getD 3 true = true → L.getD 2 true = true ∧ OneAt W1 W (vs.getD 3 undef) (barV (vs.getD 1 undef)) 51
  i10 : L.getD 10 true = true → OneAt W1 W (vs.getD 10 undef) runV 77
  i12 : L.getD 12 true = true → L.getD 3 true = true ∧ vs.getD 12 undef = vs.getD 3 undef
  i13 : L.getD 13 true = true → L.getD 10 true = true ∧ vs.getD 13 undef = vs.getD 10 undef
  blk0 : L.getD 11 true = false → Blk W G z 26
  blk1 : L.getD 11 true = true → Blk W G fin 26
  os : W.os = W1.os
  tape : W.tape = W1.tape
  output : W.output = W1.output
  size : W1.heap.size ≤ W.heap.size
  frame : ∀ k, k < W1.heap.size → k ≠ G → W.heap[k]? = W1.heap[k]?
  ltG : G < W1.heap.size
section
variable {W1 W W' : World} {G : Nat} {z fin : Array Value} {L L' : Array Bool} {vs vs' : List Value}
theorem SbJ.same (h : SbJ W1 G z fin L vs W) (hk : ∀ k ∈ [1, 2, 3, 10, 11, 12, 13], L.getD k true = L'.getD k true ∧ vs.getD k undef = vs'.getD k undef) : SbJ W1 G z fin L' vs' W := by
  obtain ⟨a1, b1⟩ := hk 1 (by simp)
  obtain ⟨a2, b2⟩ := hk 2 (by simp)
  obtain ⟨a3, b3⟩ := hk 3 (by simp)
  obtain ⟨a10, b10⟩ := hk 10 (by simp)
  obtain ⟨a11, -⟩ := hk 11 (by simp)
  obtain ⟨a12, b12⟩ := hk 12 (by simp)
  obtain ⟨a13, b13⟩ := hk 13 (by simp)
  have h0 := h
  obtain ⟨i1, i2, i3, i10, i12, i13, c0, c1, -, -, -, -, -, -⟩ := h
  rw [a1, b1] at i1
  rw [a2, b2, a1, b1] at i2
  rw [a3, a2, b3, b1] at i3
  rw [a10, b10] at i10
  rw [a12, a3, b12, b3] at i12
  rw [a13, a10, b13, b10] at i13
  rw [a11] at c0 c1
  exact ⟨i1, i2, i3, i10, i12, i13, c0, c1, h0.os, h0.tape, h0.output, h0.size, h0.frame, h0.ltG⟩
theorem SbJ.grows (h : SbJ W1 G z fin L vs W) (hb : Below W.heap.size W W') : SbJ W1 G z fin L vs W' :=
  ⟨fun e => (h.i1 e).below hb, h.i2, fun e => ⟨(h.i3 e).1, (h.i3 e).2.below hb⟩, fun e => (h.i10 e).below hb, h.i12, h.i13, fun e => (h.blk0 e).below hb, fun e => (h.blk1 e).below hb, hb.os.trans h.os, hb.tape.trans h.tape, hb.output.trans h.output, Nat.le_trans h.size hb.size, fun k h1 h2 => by rw [hb.block k (Nat.lt_of_lt_of_le h1 h.size)]; exact h.frame k h1 h2, h.ltG⟩
theorem SbJ.part : PartG [1, 2, 3, 10, 11, 12, 13] (SbJ W1 G z fin) := ⟨fun _ _ _ _ _ hk h => h.same hk, fun _ _ _ x h => h.grows (below_ext _ x)⟩
theorem SbJ.step1 (h : SbJ W1 G z fin L vs W) (hi : 1 < vs.length) (hun : L.getD 1 true = false) {u : Value} (hu : u = .slice (some ⟨W.heap.size, 0, none⟩) 1 1) {cs : Array Value} (hcs : cs = #[.int .i64 300]) : SbJ W1 G z fin (L.setIfInBounds 1 true) (vs.set 1 u) (W.alloc (.cells cs 3)) := by
  subst hcs
  have h' := h.grows (grow_alloc (.cells (#[.int .i64 300]) 3) (Below.refl _ W))
  have n2 : L.getD 2 true = false := by
    cases e : L.getD 2 true
    · rfl
    · have := (h.i2 e).1; rw [hun] at this; cases this
  have n3 : L.getD 3 true = false := by
    cases e : L.getD 3 true
    · rfl
    · have := (h.i3 e).1; rw [n2] at this; cases this
  have n12 : L.getD 12 true = false := by
    cases e : L.getD 12 true
    · rfl
    · have := (h.i12 e).1; rw [n3] at this; cases this
  refine ⟨?_, ?_, ?_, ?_, ?_, ?_, ?_, ?_, h'.os, h'.tape, h'.output, h'.size, h'.frame, h'.ltG⟩
  · exact fun _ => ⟨W.heap.size, by rw [getD_set_self' hi, hu], h.size, Blk.new _ _ _⟩
  · intro e; rw [getD_other (show (1 : Nat) ≠ 2 by decide), n2] at e; cases e
  · intro e; rw [getD_other (show (1 : Nat) ≠ 3 by decide), n3] at e; cases e
  · rw [getD_other (show (1 : Nat) ≠ 10 by decide), getD_set_other (show (1 : Nat) ≠ 10 by decide)]; exact h'.i10
  · intro e; rw [getD_other (show (1 : Nat) ≠ 12 by decide), n12] at e; cases e
  · rw [getD_other (show (1 : Nat) ≠ 13 by decide), getD_other (show (1 : Nat) ≠ 10 by decide), getD_set_other (show (1 : Nat) ≠ 13 by decide), getD_set_other (show (1 : Nat) ≠ 10 by decide)]; exact h'.i13
  · rw [getD_other (show (1 : Nat) ≠ 11 by decide)]; exact h'.blk0
  · rw [getD_other (show (1 : Nat) ≠ 11 by decide)]; exact h'.blk1
theorem SbJ.step2 (h : SbJ W1 G z fin L vs W) (hi : 2 < vs.length) (hun : L.getD 2 true = false) (hA : L.getD 1 true = true) {u : Value} (hu : u = .agg (barV (vs.getD 1 undef))) : SbJ W1 G z fin (L.setIfInBounds 2 true) (vs.set 2 u) W := by
  have h' := h
  have n3 : L.getD 3 true = false := by
    cases e : L.getD 3 true
    · rfl
    · have := (h.i3 e).1; rw [hun] at this; cases this
  have n12 : L.getD 12 true = false := by
    cases e : L.getD 12 true
    · rfl
    · have := (h.i12 e).1; rw [n3] at this; cases this
  refine ⟨?_, ?_, ?_, ?_, ?_, ?_, ?_, ?_, h'.os, h'.tape, h'.output, h'.size, h'.frame, h'.ltG⟩
  · rw [getD_other (show (2 : Nat) ≠ 1 by decide), getD_set_other (show (2 : Nat) ≠ 1 by decide)]; exact h'.i1
  · exact fun _ => ⟨by rw [getD_other (show (2 : Nat) ≠ 1 by decide)]; exact hA, by rw [getD_set_self' hi, getD_set_other (show (2 : Nat) ≠ 1 by decide)]; exact hu⟩
  · intro e; rw [getD_other (show (2 : Nat) ≠ 3 by decide), n3] at e; cases e
  · rw [getD_other (show (2 : Nat) ≠ 10 by decide), getD_set_other (show (2 : Nat) ≠ 10 by decide)]; exact h'.i10
  · intro e; rw [getD_other (show (2 : Nat) ≠ 12 by decide), n12] at e; cases e
  · rw [getD_other (show (2 : Nat) ≠ 13 by decide), getD_other (show (2 : Nat) ≠ 10 by decide), getD_set_other (show (2 : Nat) ≠ 13 by decide), getD_set_other (show (2 : Nat) ≠ 10 by decide)]; exact h'.i13
  · rw [getD_other (show (2 : Nat) ≠ 11 by decide)]; exact h'.blk0
  · rw [getD_other (show (2 : Nat) ≠ 11 by decide)]; exact h'.blk1
theorem SbJ.step3 (h : SbJ W1 G z fin L vs W) (hi : 3 < vs.length) (hun : L.getD 3 true = false) (hA : L.getD 2 true = true) {u : Value} (hu : u = .slice (some ⟨W.heap.size, 0, none⟩) 1 1) {cs : Array Value} (hcs : cs = barV (vs.getD 1 undef)) : SbJ W1 G z fin (L.setIfInBounds 3 true) (vs.set 3 u) (W.alloc (.cells cs 51)) := by
  subst hcs
  have h' := h.grows (grow_alloc (.cells (barV (vs.getD 1 undef)) 51) (Below.refl _ W))
  have n12 : L.getD 12 true = false := by
    cases e : L.getD 12 true
    · rfl
    · have := (h.i12 e).1; rw [hun] at this; cases this
  refine ⟨?_, ?_, ?_, ?_, ?_, ?_, ?_, ?_, h'.os, h'.tape, h'.output, h'.size, h'.frame, h'.ltG⟩
  · rw [getD_other (show (3 : Nat) ≠ 1 by decide), getD_set_other (show (3 : Nat) ≠ 1 by decide)]; exact h'.i1
  · rw [getD_other (show (3 : Nat) ≠ 2 by decide), getD_other (show (3 : Nat) ≠ 1 by decide), getD_set_other (show (3 : Nat) ≠ 2 by decide), getD_set_other (show (3 : Nat) ≠ 1 by decide)]; exact h'.i2
  · exact fun _ => ⟨by rw [getD_other (show (3 : Nat) ≠ 2 by decide)]; exact hA, by rw [getD_set_self' hi, getD_set_other (show (3 : Nat) ≠ 1 by decide)]; exact ⟨W.heap.size, hu, h.size, Blk.new _ _ _⟩⟩
  · rw [getD_other (show (3 : Nat) ≠ 10 by decide), getD_set_other (show (3 : Nat) ≠ 10 by decide)]; exact h'.i10
  · intro e; rw [getD_other (show (3 : Nat) ≠ 12 by decide), n12] at e; cases e
  · rw [getD_other (show (3 : Nat) ≠ 13 by decide), getD_other (show (3 : Nat) ≠ 10 by decide), getD_set_other (show (3 : Nat) ≠ 13 by decide), getD_set_other (show (3 : Nat) ≠ 10 by decide)]; exact h'.i13
  · rw [getD_other (show (3 : Nat) ≠ 11 by decide)]; exact h'.blk0
  · rw [getD_other (show (3 : Nat) ≠ 11 by decide)]; exact h'.blk1
theorem SbJ.step10 (h : SbJ W1 G z fin L vs W) (hi : 10 < vs.length) (hun : L.getD 10 true = false) {u : Value} (hu : u = .slice (some ⟨W.heap.size, 0, none⟩) 1 1) {cs : Array Value} (hcs : cs = runV) : SbJ W1 G z fin (L.setIfInBounds 10 true) (vs.set 10 u) (W.alloc (.cells cs 77)) := by
  subst hcs
  have h' := h.grows (grow_alloc (.cells (runV) 77) (Below.refl _ W))
  have n13 : L.getD 13 true = false := by
    cases e : L.getD 13 true
    · rfl
    · have := (h.i13 e).1; rw [hun] at this; cases this
  refine ⟨?_, ?_, ?_, ?_, ?_, ?_, ?_, ?_, h'.os, h'.tape, h'.output, h'.size, h'.frame, h'.ltG⟩
  · rw [getD_other (show (10 : Nat) ≠ 1 by decide), getD_set_other (show (10 : Nat) ≠ 1 by decide)]; exact h'.i1
  · rw [getD_other (show (10 : Nat) ≠ 2 by decide), getD_other (show (10 : Nat) ≠ 1 by decide), getD_set_other (show (10 : Nat) ≠ 2 by decide), getD_set_other (show (10 : Nat) ≠ 1 by decide)]; exact h'.i2
  · rw [getD_other (show (10 : Nat) ≠ 3 by decide), getD_other (show (10 : Nat) ≠ 2 by decide), getD_set_other (show (10 : Nat) ≠ 3 by decide), getD_set_other (show (10 : Nat) ≠ 1 by decide)]; exact h'.i3
  · exact fun _ => ⟨W.heap.size, by rw [getD_set_self' hi, hu], h.size, Blk.new _ _ _⟩
  · rw [getD_other (show (10 : Nat) ≠ 12 by decide), getD_other (show (10 : Nat) ≠ 3 by decide), getD_set_other (show (10 : Nat) ≠ 12 by decide), getD_set_other (show (10 : Nat) ≠ 3 by decide)]; exact h'.i12
  · intro e; rw [getD_other (show (10 : Nat) ≠ 13 by decide), n13] at e; cases e
  · rw [getD_other (show (10 : Nat) ≠ 11 by decide)]; exact h'.blk0
  · rw [getD_other (show (10 : Nat) ≠ 11 by decide)]; exact h'.blk1
theorem SbJ.step12 (h : SbJ W1 G z fin L vs W) (hi : 12 < vs.length) (_hun : L.getD 12 true = false) (hA : L.getD 3 true = true) {u : Value} (hu : u = vs.getD 3 undef) : SbJ W1 G z fin (L.setIfInBounds 12 true) (vs.set 12 u) W := by
  have h' := h
  refine ⟨?_, ?_, ?_, ?_, ?_, ?_, ?_, ?_, h'.os, h'.tape, h'.output, h'.size, h'.frame, h'.ltG⟩
  · rw [getD_other (show (12 : Nat) ≠ 1 by decide), getD_set_other (show (12 : Nat) ≠ 1 by decide)]; exact h'.i1
  · rw [getD_other (show (12 : Nat) ≠ 2 by decide), getD_other (show (12 : Nat) ≠ 1 by decide), getD_set_other (show (12 : Nat) ≠ 2 by decide), getD_set_other (show (12 : Nat) ≠ 1 by decide)]; exact h'.i2
  · rw [getD_other (show (12 : Nat) ≠ 3 by decide), getD_other (show (12 : Nat) ≠ 2 by decide), getD_set_other (show (12 : Nat) ≠ 3 by decide), getD_set_other (show (12 : Nat) ≠ 1 by decide)]; exact h'.i3
  · rw [getD_other (show (12 : Nat) ≠ 10 by decide), getD_set_other (show (12 : Nat) ≠ 10 by decide)]; exact h'.i10
  · exact fun _ => ⟨by rw [getD_other (show (12 : Nat) ≠ 3 by decide)]; exact hA, by rw [getD_set_self' hi, getD_set_other (show (12 : Nat) ≠ 3 by decide)]; exact hu⟩
  · rw [getD_other (show (12 : Nat) ≠ 13 by decide), getD_other (show (12 : Nat) ≠ 10 by decide), getD_set_other (show (12 : Nat) ≠ 13 by decide), getD_set_other (show (12 : Nat) ≠ 10 by decide)]; exact h'.i13
  · rw [getD_other (show (12 : Nat) ≠ 11 by decide)]; exact h'.blk0
  · rw [getD_other (show (12 : Nat) ≠ 11 by decide)]; exact h'.blk1
theorem SbJ.step13 (h : SbJ W1 G z fin L vs W) (hi : 13 < vs.length) (_hun : L.getD 13 true = false) (hA : L.getD 10 true = true) {u : Value} (hu : u = vs.getD 10 undef) : SbJ W1 G z fin (L.setIfInBounds 13 true) (vs.set 13 u) W := by
  have h' := h
  refine ⟨?_, ?_, ?_, ?_, ?_, ?_, ?_, ?_, h'.os, h'.tape, h'.output, h'.size, h'.frame, h'.ltG⟩
  · rw [getD_other (show (13 : Nat) ≠ 1 by decide), getD_set_other (show (13 : Nat) ≠ 1 by decide)]; exact h'.i1
  · rw [getD_other (show (13 : Nat) ≠ 2 by decide), getD_other (show (13 : Nat) ≠ 1 by decide), getD_set_other (show (13 : Nat) ≠ 2 by decide), getD_set_other (show (13 : Nat) ≠ 1 by decide)]; exact h'.i2
  · rw [getD_other (show (13 : Nat) ≠ 3 by decide), getD_other (show (13 : Nat) ≠ 2 by decide), getD_set_other (show (13 : Nat) ≠ 3 by decide), getD_set_other (show (13 : Nat) ≠ 1 by decide)]; exact h'.i3
  · rw [getD_other (show (13 : Nat) ≠ 10 by decide), getD_set_other (show (13 : Nat) ≠ 10 by decide)]; exact h'.i10
  · rw [getD_other (show (13 : Nat) ≠ 12 by decide), getD_other (show (13 : Nat) ≠ 3 by decide), getD_set_other (show (13 : Nat) ≠ 12 by decide), getD_set_other (show (13 : Nat) ≠ 3 by decide)]; exact h'.i12
  · exact fun _ => ⟨by rw [getD_other (show (13 : Nat) ≠ 10 by decide)]; exact hA, by rw [getD_set_self' hi, getD_set_other (show (13 : Nat) ≠ 10 by decide)]; exact hu⟩
  · rw [getD_other (show (13 : Nat) ≠ 11 by decide)]; exact h'.blk0
  · rw [getD_other (show (13 : Nat) ≠ 11 by decide)]; exact h'.blk1
theorem SbJ.step11 (h : SbJ W1 G z fin L vs W) (hoth : ∀ k, k ≠ G → W'.heap[k]? = W.heap[k]?) (hs : W'.heap.size = W.heap.size) (hr : W'.os = W.os ∧ W'.tape = W.tape ∧ W'.output = W.output) (hb : Blk W' G fin 26) : SbJ W1 G z fin (L.setIfInBounds 11 true) vs W' := by
  refine ⟨?_, ?_, ?_, ?_, ?_, ?_, fun e => ?_, fun _ => hb, hr.1.trans h.os, hr.2.1.trans h.tape, hr.2.2.trans h.output, by rw [hs]; exact h.size, fun k h1 h2 => by rw [hoth k h2]; exact h.frame k h1 h2, h.ltG⟩
  · rw [getD_other (show (11 : Nat) ≠ 1 by decide)]; exact fun e => (h.i1 e).other h.ltG hoth
  · rw [getD_other (show (11 : Nat) ≠ 2 by decide), getD_other (show (11 : Nat) ≠ 1 by decide)]; exact h.i2
  · rw [getD_other (show (11 : Nat) ≠ 3 by decide), getD_other (show (11 : Nat) ≠ 2 by decide)]; exact fun e => ⟨(h.i3 e).1, (h.i3 e).2.other h.ltG hoth⟩
  · rw [getD_other (show (11 : Nat) ≠ 10 by decide)]; exact fun e => (h.i10 e).other h.ltG hoth
  · rw [getD_other (show (11 : Nat) ≠ 12 by decide), getD_other (show (11 : Nat) ≠ 3 by decide)]; exact h.i12
  · rw [getD_other (show (11 : Nat) ≠ 13 by decide), getD_other (show (11 : Nat) ≠ 10 by decide)]; exact h.i13
  · rw [getD_self] at e; cases e
theorem SbJ.init (hL : ∀ k ∈ [1, 2, 3, 10, 11, 12, 13], L.getD k true = false) (hb : Blk W1 G z 26) : SbJ W1 G z fin L vs W1.drew := by
  refine ⟨fun e => ?_, fun e => ?_, fun e => ?_, fun e => ?_, fun e => ?_, fun e => ?_, fun _ => hb, fun e => ?_, rfl, rfl, rfl, Nat.le_refl _, fun _ _ _ => rfl, hb.lt⟩
  · rw [hL 1 (by simp)] at e; cases e
  · rw [hL 2 (by simp)] at e; cases e
  · rw [hL 3 (by simp)] at e; cases e
  · rw [hL 10 (by simp)] at e; cases e
  · rw [hL 12 (by simp)] at e; cases e
  · rw [hL 13 (by simp)] at e; cases e
  · rw [hL 11 (by simp)] at e; cases e
end
end Go.Proofs.YtmhhohancconaaaGreat

namespace Go.Proofs.YtmhhohancconaaaGreat
open Go.RowKit
set_option maxRecDepth 20000

def sureB (u : Value) : Br := ⟨⟨#[97]⟩, 10, 2, 0, [300], u⟩
def sureR : Rn := ⟨⟨#[97]⟩, 1, 2, 50, 50, 100, 0, 30, 0, 2⟩
def sureX : Bx := ⟨0, 0, 0, 400, 200, 200⟩
def sureM (u : Value) : Mb := ⟨⟨#[109]⟩, [sureX], [], u, .slice none 0 0, 30, 16, 50⟩
theorem sampleBoxes {W : World} {g : Nat} (h : Blk W g #[.int .i64 0, .int .i64 0, .int .i64 0, .int .i64 400, .int .i64 200, .int .i64 200] 56) : MbAt W (sureM (.slice (some ⟨g, 0, none⟩) 1 1)) := by
  refine ⟨by show (1 : Nat) ≤ _; decide, ⟨some ⟨g, 0, none⟩, 1, rfl, Nat.le_refl _, by decide, fun i hi => ?_⟩, ⟨none, 0, rfl, Nat.le_refl _, by decide, fun i hi => absurd hi (Nat.not_lt_zero _)⟩⟩
  obtain rfl : i = 0 := by have : i < 1 := hi; omega
  exact ⟨g, 0, rfl, h.cell 0, h.cell 1, h.cell 2, h.cell 3, h.cell 4, h.cell 5⟩
theorem sampleBars {W : World} {g g1 : Nat} (h1 : Blk W g1 #[.int .i64 300] 3) (h : Blk W g (barV (.slice (some ⟨g1, 0, none⟩) 1 1)) 51) : Bars W (.slice (some ⟨g, 0, none⟩) 1 1) [sureB (.slice (some ⟨g1, 0, none⟩) 1 1)] := by
  refine ⟨some ⟨g, 0, none⟩, 1, rfl, Nat.le_refl _, by decide, fun i hi => ?_⟩
  obtain rfl : i = 0 := by have : i < 1 := hi; omega
  refine ⟨⟨by show (1 : Nat) ≤ _; decide, ⟨some ⟨g1, 0, none⟩, 1, rfl, Nat.le_refl _, by decide, fun j hj => ?_⟩⟩, g, 0, rfl, h.cell 0, h.cell 1, h.cell 2, h.cell 3, h.cell 4⟩
  obtain rfl : j = 0 := by have : j < 1 := hj; omega
  exact ⟨g1, 0, rfl, h1.cell 0⟩
theorem sampleRuns {W : World} {g : Nat} (h : Blk W g runV 77) : Runs W (.slice (some ⟨g, 0, none⟩) 1 1) [sureR] := by
  refine ⟨some ⟨g, 0, none⟩, 1, rfl, Nat.le_refl _, by decide, fun i hi => ?_⟩
  obtain rfl : i = 0 := by have : i < 1 := hi; omega
  exact ⟨by show (1 : Nat) ≤ _; decide, g, 0, rfl, h.cell 0, h.cell 1, h.cell 2, h.cell 3, h.cell 4, h.cell 5, h.cell 6, h.cell 7, h.cell 8, h.cell 9⟩
set_option maxHeartbeats 1000000 in
theorem p36_c (x y z : Int) (w : World) : Calls Tryz.prog 36 #[.int .i64 x, .int .i64 y, .int .i64 z] w (Ret w (.agg #[.int .i64 x, .int .i64 y, .int .i64 z])) := by
  go_enter Tryz.func36, Tryz.ntmps36
  go_wp2
  refine bodyPost_ret (v := (.agg #[.int .i64 x, .int .i64 y, .int .i64 z])) (by simp [results, Tryz.results36, go_sem]) rfl ?_
  exact Ret.of (by (repeat (first | exact grow_refl _ | refine grow_ext _ ?_ | refine grow_alloc _ ?_ | refine grow_drew ?_)))
def RetSure (w : World) (e : Ending) (W : World) : Prop := ∃ (gB g1 : Nat) (v u : Value), e = .returned (.tuple #[.agg #[.string ⟨#[109]⟩, .slice (some ⟨gB, 0, none⟩) 1 1, .slice none 0 0, .int .i64 30, .int .i64 16, .int .i64 50], v, u]) ∧
  MbAt W (sureM (.slice (some ⟨gB, 0, none⟩) 1 1)) ∧ Bars W v [sureB (.slice (some ⟨g1, 0, none⟩) 1 1)] ∧ Runs W u [sureR] ∧ ∃ x, W = ext w x
set_option maxRecDepth 100000 in
set_option maxHeartbeats 8000000 in
theorem sureBars_c (w : World) : Calls Tryz.prog 17 #[] w (RetSure w) := by
  go_enter Tryz.func17, Tryz.ntmps17
  go_wp2_with fail
  go_at_call 36; refine (p36_c _ _ _ _).mono ?_; rintro e w' ⟨rfl, x0, rfl⟩
  go_upto_region 3 with fail
  refine world_mask (fun W => Below w.heap.size w W ∧ Blk W w.heap.size #[.string ⟨#[]⟩, .slice none 0 0, .slice none 0 0, .int .i64 0, .int .i64 0, .int .i64 0] 26 ∧ Blk W (w.heap.size + 1 + x0.heap.size) #[.int .i64 0, .int .i64 0, .int .i64 0, .int .i64 400, .int .i64 200, .int .i64 200] 56 ∧ Blk W (w.heap.size + 1 + x0.heap.size + 1) #[.string ⟨#[109]⟩, .slice (some ⟨(w.heap.size + 1 + x0.heap.size), 0, none⟩) 1 1, .slice none 0 0, .int .i64 30, .int .i64 16, .int .i64 50] 26) _ ⟨by (repeat (first | exact grow_refl _ | refine grow_ext _ ?_ | refine grow_alloc _ ?_ | refine grow_drew ?_)), (((Blk.new _ _ _).ext _).alloc _).alloc _, (Blk.new' (by simp only [World.size_alloc, size_ext]) _ _).alloc _, Blk.new' (by simp only [World.size_alloc, size_ext]) _ _⟩ ?_
  generalize hg4 : w.heap.size + 1 + x0.heap.size + 1 = g4
  generalize hgB : w.heap.size + 1 + x0.heap.size = gB at *
  rintro W1 ⟨hb, h0, hbb, h4⟩
  have HB := Lib.hid hb
  have H0 := Lib.hid h0
  have HBB := Lib.hid hbb
  have H4 := Lib.hid h4
  have HNE := Lib.hid (show g4 ≠ w.heap.size by omega)
  have HNE2 := Lib.hid (show gB ≠ w.heap.size by omega)
  clear hb h0 hbb h4 hg4 hgB
  have hpart : PartG [1, 2, 3, 10, 11, 12, 13] (SbJ W1 w.heap.size #[.string ⟨#[]⟩, .slice none 0 0, .slice none 0 0, .int .i64 0, .int .i64 0, .int .i64 0] #[.string ⟨#[109]⟩, .slice (some ⟨gB, 0, none⟩) 1 1, .slice none 0 0, .int .i64 30, .int .i64 16, .int .i64 50]) := SbJ.part
  have HPART := Lib.hid hpart
  clear hpart
  refine wp_region_G [(.agg #[.string ⟨#[109]⟩, .slice (some ⟨gB, 0, none⟩) 1 1, .slice none 0 0, .int .i64 30, .int .i64 16, .int .i64 50]), undef, undef, undef, (.agg #[.int .i64 1, .int .i64 2]), .func (.func 36) #[] #[], (Value.agg #[.int .i64 50, .int .i64 50, .int .i64 100]), .func (.func 36) #[] #[], (Value.agg #[.int .i64 0, .int .i64 30, .int .i64 0]), (.agg runV), undef, undef, undef, undef] [1, 2, 3, 10, 11, 12, 13] (SbJ W1 w.heap.size #[.string ⟨#[]⟩, .slice none 0 0, .slice none 0 0, .int .i64 0, .int .i64 0, .int .i64 0] #[.string ⟨#[109]⟩, .slice (some ⟨gB, 0, none⟩) 1 1, .slice none 0 0, .int .i64 30, .int .i64 16, .int .i64 50]) (by kernel_rfl) (by kernel_rfl) ?_ ?_ ?_
  · intro vs hlen
    refine SbJ.init (fun k hk => repL ?_) H0.out
    have hk' : k ∈ ([1, 2, 3, 10, 11, 12, 13] : List Nat) := hk
    simp only [List.mem_cons, List.not_mem_nil, or_false] at hk'
    show k < 14
    omega
  · intro L vs W i hlen hJ hi
    obtain ⟨x0, vs0, rfl, hlen0⟩ := len_cons hlen
    obtain ⟨x1, vs1, rfl, hlen1⟩ := len_cons hlen0
    obtain ⟨x2, vs2, rfl, hlen2⟩ := len_cons hlen1
    obtain ⟨x3, vs3, rfl, hlen3⟩ := len_cons hlen2
    obtain ⟨x4, vs4, rfl, hlen4⟩ := len_cons hlen3
    obtain ⟨x5, vs5, rfl, hlen5⟩ := len_cons hlen4
    obtain ⟨x6, vs6, rfl, hlen6⟩ := len_cons hlen5
    obtain ⟨x7, vs7, rfl, hlen7⟩ := len_cons hlen6
    obtain ⟨x8, vs8, rfl, hlen8⟩ := len_cons hlen7
    obtain ⟨x9, vs9, rfl, hlen9⟩ := len_cons hlen8
    obtain ⟨x10, vs10, rfl, hlen10⟩ := len_cons hlen9
    obtain ⟨x11, vs11, rfl, hlen11⟩ := len_cons hlen10
    obtain ⟨x12, vs12, rfl, hlen12⟩ := len_cons hlen11
    obtain ⟨x13, vs13, rfl, hlen13⟩ := len_cons hlen12
    obtain rfl := len_nil hlen13
    clear hlen hlen0 hlen1 hlen2 hlen3 hlen4 hlen5 hlen6 hlen7 hlen8 hlen9 hlen10 hlen11 hlen12 hlen13
    obtain ⟨hun, o, ho, hd⟩ := mem_ready.1 hi
    have hin : i < 14 := by have := (Array.getElem?_eq_some_iff.1 ho).1; simpa using this
    refine wpOp_free (B := fun a' W' => ∃ x0 x1 x2 x3 x4 x5 x6 x7 x8 x9 x10 x11 x12 x13, a' = putAll _ [x0, x1, x2, x3, x4, x5, x6, x7, x8, x9, x10, x11, x12, x13] _ ∧ InvG _ _ _ [x0, x1, x2, x3, x4, x5, x6, x7, x8, x9, x10, x11, x12, x13] (L.setIfInBounds i true) W') (fun _ _ h => by obtain ⟨x0, x1, x2, x3, x4, x5, x6, x7, x8, x9, x10, x11, x12, x13, h1, h2⟩ := h; exact ⟨[x0, x1, x2, x3, x4, x5, x6, x7, x8, x9, x10, x11, x12, x13], rfl, h1, h2⟩) ?_
    intro K HK
    simp only [putAll_cons, putAll_nil, put_some, put_none, List.setIfInBounds_toArray, List.set_cons_succ, List.set_cons_zero] at HK ⊢
    have hb4 := H4.out.of_block (hJ.part.frame _ H4.out.lt HNE.out)
    have k0 : W.cell? ⟨g4, 0, none⟩ = some (.string ⟨#[109]⟩) := hb4.cell 0
    have k1 : W.cell? ⟨g4, 1, none⟩ = some (.slice (some ⟨gB, 0, none⟩) 1 1) := hb4.cell 1
    have k2 : W.cell? ⟨g4, 2, none⟩ = some (.slice none 0 0) := hb4.cell 2
    have k3 : W.cell? ⟨g4, 3, none⟩ = some (.int .i64 30) := hb4.cell 3
    have k4 : W.cell? ⟨g4, 4, none⟩ = some (.int .i64 16) := hb4.cell 4
    have k5 : W.cell? ⟨g4, 5, none⟩ = some (.int .i64 50) := hb4.cell 5
    clear hb4
    rcases (show i = 0 ∨ i = 1 ∨ i = 2 ∨ i = 3 ∨ i = 4 ∨ i = 5 ∨ i = 6 ∨ i = 7 ∨ i = 8 ∨ i = 9 ∨ i = 10 ∨ i = 11 ∨ i = 12 ∨ i = 13 by omega) with rfl | rfl | rfl | rfl | rfl | rfl | rfl | rfl | rfl | rfl | rfl | rfl | rfl | rfl
    · obtain rfl := Option.some.inj ho
      refine wpOp_of_list (by rfl) ?_
      go_wp2
      exact HK.out _ _ ⟨_, _, _, _, _, _, _, _, _, _, _, _, _, _, rfl, hJ.up HPART.out 0 (by decide) (show 0 < 14 by decide) rfl⟩
    · obtain rfl := Option.some.inj ho
      refine wpOp_of_list (by rfl) ?_
      go_wp2
      exact HK.out _ _ ⟨_, _, _, _, _, _, _, _, _, _, _, _, _, _, rfl, hJ.spec 1 (by decide) _ (hJ.part.step1 (show 1 < 14 by decide) hun rfl rfl)⟩
    · obtain rfl := Option.some.inj ho
      obtain ⟨g1, e1, -, -⟩ := hJ.part.i1 (getD_upJ (hd ⟨1, .data⟩ (by simp) (by rfl)))
      have e1' : x1 = .slice (some ⟨g1, 0, none⟩) 1 1 := e1
      have HST := Lib.hid (hJ.part.step2 (show 2 < 14 by decide) hun (getD_upJ (hd ⟨1, .data⟩ (by simp) (by rfl))) rfl)
      clear e1
      subst e1'
      refine wpOp_of_list (by rfl) ?_
      go_wp2
      exact HK.out _ _ ⟨_, _, _, _, _, _, _, _, _, _, _, _, _, _, rfl, hJ.spec 2 (by decide) _ (HST.out)⟩
    · obtain rfl := Option.some.inj ho
      obtain ⟨h1, e2⟩ := hJ.part.i2 (getD_upJ (hd ⟨2, .data⟩ (by simp) (by rfl)))
      obtain ⟨g1, e1, -, -⟩ := hJ.part.i1 h1
      have e1' : x1 = .slice (some ⟨g1, 0, none⟩) 1 1 := e1
      have e2' : x2 = .agg (barV x1) := e2
      have HST := Lib.hid (hJ.part.step3 (show 3 < 14 by decide) hun (getD_upJ (hd ⟨2, .data⟩ (by simp) (by rfl))) rfl rfl)
      clear e1 e2 h1
      subst e2' e1'
      unfold barV at *
      refine wpOp_of_list (by rfl) ?_
      go_wp2
      exact HK.out _ _ ⟨_, _, _, _, _, _, _, _, _, _, _, _, _, _, rfl, hJ.spec 3 (by decide) _ (HST.out)⟩
    · obtain rfl := Option.some.inj ho
      refine wpOp_of_list (by rfl) ?_
      go_wp2
      exact HK.out _ _ ⟨_, _, _, _, _, _, _, _, _, _, _, _, _, _, rfl, hJ.up HPART.out 4 (by decide) (show 4 < 14 by decide) rfl⟩
    · obtain rfl := Option.some.inj ho
      refine wpOp_of_list (by rfl) ?_
      go_wp2
      exact HK.out _ _ ⟨_, _, _, _, _, _, _, _, _, _, _, _, _, _, rfl, hJ.up HPART.out 5 (by decide) (show 5 < 14 by decide) rfl⟩
    · obtain rfl := Option.some.inj ho
      have d5 : x5 = .func (.func 36) #[] #[] := hJ.val 5 (show 5 < 14 by decide) (by decide) (getD_upJ (hd ⟨5, .data⟩ (by simp) (by rfl)))
      subst d5
      refine wpOp_of_list (by rfl) ?_
      go_wp2_with fail
      go_at_call 36; refine (p36_c _ _ _ _).mono ?_; rintro e w' ⟨rfl, xq, rfl⟩
      go_wp2
      exact HK.out _ _ ⟨_, _, _, _, _, _, _, _, _, _, _, _, _, _, rfl, (hJ.grow HPART.out _).up HPART.out 6 (by decide) (show 6 < 14 by decide) rfl⟩
    · obtain rfl := Option.some.inj ho
      refine wpOp_of_list (by rfl) ?_
      go_wp2
      exact HK.out _ _ ⟨_, _, _, _, _, _, _, _, _, _, _, _, _, _, rfl, hJ.up HPART.out 7 (by decide) (show 7 < 14 by decide) rfl⟩
    · obtain rfl := Option.some.inj ho
      have d7 : x7 = .func (.func 36) #[] #[] := hJ.val 7 (show 7 < 14 by decide) (by decide) (getD_upJ (hd ⟨7, .data⟩ (by simp) (by rfl)))
      subst d7
      refine wpOp_of_list (by rfl) ?_
      go_wp2_with fail
      go_at_call 36; refine (p36_c _ _ _ _).mono ?_; rintro e w' ⟨rfl, xq, rfl⟩
      go_wp2
      exact HK.out _ _ ⟨_, _, _, _, _, _, _, _, _, _, _, _, _, _, rfl, (hJ.grow HPART.out _).up HPART.out 8 (by decide) (show 8 < 14 by decide) rfl⟩
    · obtain rfl := Option.some.inj ho
      have d4 : x4 = (.agg #[.int .i64 1, .int .i64 2]) := hJ.val 4 (show 4 < 14 by decide) (by decide) (getD_upJ (hd ⟨4, .data⟩ (by simp) (by rfl)))
      have d6 : x6 = (Value.agg #[.int .i64 50, .int .i64 50, .int .i64 100]) := hJ.val 6 (show 6 < 14 by decide) (by decide) (getD_upJ (hd ⟨6, .data⟩ (by simp) (by rfl)))
      have d8 : x8 = (Value.agg #[.int .i64 0, .int .i64 30, .int .i64 0]) := hJ.val 8 (show 8 < 14 by decide) (by decide) (getD_upJ (hd ⟨8, .data⟩ (by simp) (by rfl)))
      subst d4 d6 d8
      refine wpOp_of_list (by rfl) ?_
      go_wp2
      exact HK.out _ _ ⟨_, _, _, _, _, _, _, _, _, _, _, _, _, _, rfl, hJ.up HPART.out 9 (by decide) (show 9 < 14 by decide) rfl⟩
    · obtain rfl := Option.some.inj ho
      have d9 : x9 = (.agg runV) := hJ.val 9 (show 9 < 14 by decide) (by decide) (getD_upJ (hd ⟨9, .data⟩ (by simp) (by rfl)))
      subst d9
      have HST := Lib.hid (hJ.part.step10 (show 10 < 14 by decide) hun rfl rfl)
      unfold runV at *
      refine wpOp_of_list (by rfl) ?_
      go_wp2
      exact HK.out _ _ ⟨_, _, _, _, _, _, _, _, _, _, _, _, _, _, rfl, hJ.spec 10 (by decide) _ (HST.out)⟩
    · obtain rfl := Option.some.inj ho
      have d0 : x0 = (.agg #[.string ⟨#[109]⟩, .slice (some ⟨gB, 0, none⟩) 1 1, .slice none 0 0, .int .i64 30, .int .i64 16, .int .i64 50]) := hJ.val 0 (show 0 < 14 by decide) (by decide) (getD_upJ (hd ⟨0, .data⟩ (by simp) (by rfl)))
      subst d0
      have hb := hJ.part.blk0 hun
      have qf0 : W.frozen? ⟨w.heap.size, 0, none⟩ = false := hb.frozen 0
      have qf1 : W.frozen? ⟨w.heap.size, 1, none⟩ = false := hb.frozen 1
      have qf2 : W.frozen? ⟨w.heap.size, 2, none⟩ = false := hb.frozen 2
      have qf3 : W.frozen? ⟨w.heap.size, 3, none⟩ = false := hb.frozen 3
      have qf4 : W.frozen? ⟨w.heap.size, 4, none⟩ = false := hb.frozen 4
      have qf5 : W.frozen? ⟨w.heap.size, 5, none⟩ = false := hb.frozen 5
      obtain ⟨_, qg0⟩ : ∃ z, W.cell? ⟨w.heap.size, 0, none⟩ = some z := ⟨_, (hb.cell 0).trans rfl⟩
      obtain ⟨_, qg1⟩ : ∃ z, W.cell? ⟨w.heap.size, 1, none⟩ = some z := ⟨_, (hb.cell 1).trans rfl⟩
      obtain ⟨_, qg2⟩ : ∃ z, W.cell? ⟨w.heap.size, 2, none⟩ = some z := ⟨_, (hb.cell 2).trans rfl⟩
      obtain ⟨_, qg3⟩ : ∃ z, W.cell? ⟨w.heap.size, 3, none⟩ = some z := ⟨_, (hb.cell 3).trans rfl⟩
      obtain ⟨_, qg4⟩ : ∃ z, W.cell? ⟨w.heap.size, 4, none⟩ = some z := ⟨_, (hb.cell 4).trans rfl⟩
      obtain ⟨_, qg5⟩ : ∃ z, W.cell? ⟨w.heap.size, 5, none⟩ = some z := ⟨_, (hb.cell 5).trans rfl⟩
      have HST := Lib.hid (hJ.part.step11 (W' := putL W w.heap.size 0 [.string ⟨#[109]⟩, .slice (some ⟨gB, 0, none⟩) 1 1, .slice none 0 0, .int .i64 30, .int .i64 16, .int .i64 50]) (fun k hk => putL_other _ _ _ _ k hk) (putL_size _ _ _ _) (putL_rest _ _ _ _) (putL_all hb rfl))
      clear hb
      refine wpOp_of_list (by rfl) ?_
      go_wp2
      exact HK.out _ _ ⟨_, _, _, _, _, _, _, _, _, _, _, _, _, _, rfl, hJ.spec0 11 (by decide) HST.out⟩
    · obtain rfl := Option.some.inj ho
      have HST := Lib.hid (hJ.part.step12 (show 12 < 14 by decide) hun (getD_upJ (hd ⟨3, .data⟩ (by simp) (by rfl))) rfl)
      refine wpOp_of_list (by rfl) ?_
      go_wp2
      exact HK.out _ _ ⟨_, _, _, _, _, _, _, _, _, _, _, _, _, _, rfl, hJ.spec 12 (by decide) _ (HST.out)⟩
    · obtain rfl := Option.some.inj ho
      have HST := Lib.hid (hJ.part.step13 (show 13 < 14 by decide) hun (getD_upJ (hd ⟨10, .data⟩ (by simp) (by rfl))) rfl)
      refine wpOp_of_list (by rfl) ?_
      go_wp2
      exact HK.out _ _ ⟨_, _, _, _, _, _, _, _, _, _, _, _, _, _, rfl, hJ.spec 13 (by decide) _ (HST.out)⟩
  · intro vs L W hlen hJ hall
    obtain ⟨x0, vs0, rfl, hlen0⟩ := len_cons hlen
    obtain ⟨x1, vs1, rfl, hlen1⟩ := len_cons hlen0
    obtain ⟨x2, vs2, rfl, hlen2⟩ := len_cons hlen1
    obtain ⟨x3, vs3, rfl, hlen3⟩ := len_cons hlen2
    obtain ⟨x4, vs4, rfl, hlen4⟩ := len_cons hlen3
    obtain ⟨x5, vs5, rfl, hlen5⟩ := len_cons hlen4
    obtain ⟨x6, vs6, rfl, hlen6⟩ := len_cons hlen5
    obtain ⟨x7, vs7, rfl, hlen7⟩ := len_cons hlen6
    obtain ⟨x8, vs8, rfl, hlen8⟩ := len_cons hlen7
    obtain ⟨x9, vs9, rfl, hlen9⟩ := len_cons hlen8
    obtain ⟨x10, vs10, rfl, hlen10⟩ := len_cons hlen9
    obtain ⟨x11, vs11, rfl, hlen11⟩ := len_cons hlen10
    obtain ⟨x12, vs12, rfl, hlen12⟩ := len_cons hlen11
    obtain ⟨x13, vs13, rfl, hlen13⟩ := len_cons hlen12
    obtain rfl := len_nil hlen13
    clear hlen hlen0 hlen1 hlen2 hlen3 hlen4 hlen5 hlen6 hlen7 hlen8 hlen9 hlen10 hlen11 hlen12 hlen13
    have d0 : x0 = (.agg #[.string ⟨#[109]⟩, .slice (some ⟨gB, 0, none⟩) 1 1, .slice none 0 0, .int .i64 30, .int .i64 16, .int .i64 50]) := hJ.val 0 (show 0 < 14 by decide) (by decide) (hall 0 (of_decide_eq_true (by kernel_rfl)))
    have d4 : x4 = (.agg #[.int .i64 1, .int .i64 2]) := hJ.val 4 (show 4 < 14 by decide) (by decide) (hall 4 (of_decide_eq_true (by kernel_rfl)))
    have d5 : x5 = .func (.func 36) #[] #[] := hJ.val 5 (show 5 < 14 by decide) (by decide) (hall 5 (of_decide_eq_true (by kernel_rfl)))
    have d6 : x6 = (Value.agg #[.int .i64 50, .int .i64 50, .int .i64 100]) := hJ.val 6 (show 6 < 14 by decide) (by decide) (hall 6 (of_decide_eq_true (by kernel_rfl)))
    have d7 : x7 = .func (.func 36) #[] #[] := hJ.val 7 (show 7 < 14 by decide) (by decide) (hall 7 (of_decide_eq_true (by kernel_rfl)))
    have d8 : x8 = (Value.agg #[.int .i64 0, .int .i64 30, .int .i64 0]) := hJ.val 8 (show 8 < 14 by decide) (by decide) (hall 8 (of_decide_eq_true (by kernel_rfl)))
    have d9 : x9 = (.agg runV) := hJ.val 9 (show 9 < 14 by decide) (by decide) (hall 9 (of_decide_eq_true (by kernel_rfl)))
    subst d0 d4 d5 d6 d7 d8 d9
    have hb0 := hJ.part.blk1 (hall 11 (of_decide_eq_true (by kernel_rfl)))
    obtain ⟨g1, e1, -, b1⟩ := hJ.part.i1 (hall 1 (of_decide_eq_true (by kernel_rfl)))
    obtain ⟨-, g3, e3, -, b3⟩ := hJ.part.i3 (hall 3 (of_decide_eq_true (by kernel_rfl)))
    obtain ⟨g10, e10, -, b10⟩ := hJ.part.i10 (hall 10 (of_decide_eq_true (by kernel_rfl)))
    obtain ⟨-, e12⟩ := hJ.part.i12 (hall 12 (of_decide_eq_true (by kernel_rfl)))
    obtain ⟨-, e13⟩ := hJ.part.i13 (hall 13 (of_decide_eq_true (by kernel_rfl)))
    obtain ⟨-, e2⟩ := hJ.part.i2 (hall 2 (of_decide_eq_true (by kernel_rfl)))
    have e1' : x1 = .slice (some ⟨g1, 0, none⟩) 1 1 := e1
    have e3' : x3 = .slice (some ⟨g3, 0, none⟩) 1 1 := e3
    have e10' : x10 = .slice (some ⟨g10, 0, none⟩) 1 1 := e10
    have e12' : x12 = x3 := e12
    have e13' : x13 = x10 := e13
    have e2' : x2 = .agg (barV x1) := e2
    have hbB := HBB.out.of_block (hJ.part.frame _ HBB.out.lt HNE2.out)
    have HBW := Lib.hid (show Below w.heap.size w W from ⟨hJ.part.os.trans HB.out.os, hJ.part.tape.trans HB.out.tape, hJ.part.output.trans HB.out.output, Nat.le_trans HB.out.size hJ.part.size, fun k hk => by rw [hJ.part.frame k (Nat.lt_of_lt_of_le hk HB.out.size) (Nat.ne_of_lt hk)]; exact HB.out.block k hk⟩)
    have b3' : Blk W g3 (barV (.slice (some ⟨g1, 0, none⟩) 1 1)) 51 := by rw [← e1']; exact b3
    have HB1 := Lib.hid b1
    have HB3 := Lib.hid b3'
    have HB10 := Lib.hid b10
    have HB4 := Lib.hid hbB
    have k0 : W.cell? ⟨w.heap.size, 0, none⟩ = some (.string ⟨#[109]⟩) := hb0.cell 0
    have k1 : W.cell? ⟨w.heap.size, 1, none⟩ = some (.slice (some ⟨gB, 0, none⟩) 1 1) := hb0.cell 1
    have k2 : W.cell? ⟨w.heap.size, 2, none⟩ = some (.slice none 0 0) := hb0.cell 2
    have k3 : W.cell? ⟨w.heap.size, 3, none⟩ = some (.int .i64 30) := hb0.cell 3
    have k4 : W.cell? ⟨w.heap.size, 4, none⟩ = some (.int .i64 16) := hb0.cell 4
    have k5 : W.cell? ⟨w.heap.size, 5, none⟩ = some (.int .i64 50) := hb0.cell 5
    clear hb0 e1 e3 e10 e12 e13 e2 b1 b3 b3' b10 hbB hJ hall
    subst e12' e13' e2'
    subst e1' e3' e10'
    simp only [putAll_cons, putAll_nil, put_some, put_none, List.setIfInBounds_toArray, List.set_cons_succ, List.set_cons_zero]
    go_wp2
    refine bodyPost_ret (v := .tuple #[.agg #[.string ⟨#[109]⟩, .slice (some ⟨gB, 0, none⟩) 1 1, .slice none 0 0, .int .i64 30, .int .i64 16, .int .i64 50], .slice (some ⟨g3, 0, none⟩) 1 1, .slice (some ⟨g10, 0, none⟩) 1 1]) (by simp [results, Tryz.results17, go_sem, k0, k1, k2, k3, k4, k5]) rfl ?_
    exact ⟨gB, g1, _, _, rfl, sampleBoxes HB4.out, sampleBars HB1.out HB3.out, sampleRuns HB10.out, ext_of HBW.out⟩

end Go.Proofs.YtmhhohancconaaaGreat

namespace Go.Proofs.YtmhhohancconaaaGreat
open Go.RowKit
set_option maxRecDepth 20000

theorem sure_laid (u : Value) : laidB [sureB u] [sureR] = true := by kernel_rfl
theorem sure_count : countS [sureR] = 2 := by decide
theorem sure_member (u : Value) : mbB (sureM u) = true := by kernel_rfl
theorem sure_legs (u : Value) : legsTo [sureB u] [sureR] 2 = [[⟨50, 50, 100, 350, 50, 100⟩], [⟨50, 80, 100, 350, 80, 100⟩]] := by kernel_rfl
theorem sure_sizes (u : Value) : sizesTo [sureB u] [sureR] 2 = [10, 10] := by kernel_rfl
theorem sure_clear20 : clearB [[⟨50, 50, 100, 350, 50, 100⟩], [⟨50, 80, 100, 350, 80, 100⟩]] [10, 10] 20 = true := by decide +kernel
theorem sure_clear21 : clearB [[⟨50, 50, 100, 350, 50, 100⟩], [⟨50, 80, 100, 350, 80, 100⟩]] [10, 10] 21 = false := by decide +kernel
theorem sure_free20 (u : Value) : clearB (legsTo [sureB u] [sureR] (countS [sureR]).toNat) (sizesTo [sureB u] [sureR] (countS [sureR]).toNat) 20 = true := by
  rw [sure_count, show (2 : Int).toNat = 2 from rfl, sure_legs, sure_sizes, sure_clear20]
theorem sure_free21 (u : Value) : clearB (legsTo [sureB u] [sureR] (countS [sureR]).toNat) (sizesTo [sureB u] [sureR] (countS [sureR]).toNat) 21 = false := by
  rw [sure_count, show (2 : Int).toNat = 2 from rfl, sure_legs, sure_sizes, sure_clear21]
theorem sure_cover0 (u : Value) : (30 : Int) ≤ coverC (sureM u).l (sureM u).m (coreX 10 ⟨50, 50, 100, 350, 50, 100⟩) :=
  topC_ge (c := 30) (by decide) (show containsS [sureX] [] (grownX (coreX 10 ⟨50, 50, 100, 350, 50, 100⟩) (30 : Nat)) = true by rw [contains_one sureX (by unfold Ordd; decide)]; decide)
theorem sure_cover1 (u : Value) : (30 : Int) ≤ coverC (sureM u).l (sureM u).m (coreX 10 ⟨50, 80, 100, 350, 80, 100⟩) :=
  topC_ge (c := 30) (by decide) (show containsS [sureX] [] (grownX (coreX 10 ⟨50, 80, 100, 350, 80, 100⟩) (30 : Nat)) = true by rw [contains_one sureX (by unfold Ordd; decide)]; decide)
theorem sure_bar0 (u v : Value) : ¬ barI (sureM u) [sureB v] [sureR] (0 : Nat) < 30 := by
  have h := sure_cover0 u
  have e : barI (sureM u) [sureB v] [sureR] (0 : Nat) = coverL (sureM u) 10 [⟨50, 50, 100, 350, 50, 100⟩] := by
    unfold barI
    rw [show sizeI [sureB v] [sureR] (0 : Nat) = 10 by kernel_rfl, show legsI [sureB v] [sureR] (0 : Nat) = [⟨50, 50, 100, 350, 50, 100⟩] by kernel_rfl]
  rw [e]
  unfold coverL
  rw [List.foldl_cons, List.foldl_nil]
  omega
theorem sure_bar1 (u v : Value) : ¬ barI (sureM u) [sureB v] [sureR] (1 : Nat) < 30 := by
  have h := sure_cover1 u
  have e : barI (sureM u) [sureB v] [sureR] (1 : Nat) = coverL (sureM u) 10 [⟨50, 80, 100, 350, 80, 100⟩] := by
    unfold barI
    rw [show sizeI [sureB v] [sureR] (1 : Nat) = 10 by kernel_rfl, show legsI [sureB v] [sureR] (1 : Nat) = [⟨50, 80, 100, 350, 80, 100⟩] by kernel_rfl]
  rw [e]
  unfold coverL
  rw [List.foldl_cons, List.foldl_nil]
  omega
theorem sure_findings (u v : Value) : coverTo (sureM u) [sureB v] [sureR] (countS [sureR]).toNat = [] := by
  rw [sure_count, show (2 : Int).toNat = 1 + 1 from rfl, coverTo_succ, if_neg (show ¬ barI (sureM u) [sureB v] [sureR] (1 : Nat) < (sureM u).cover from sure_bar1 u v), List.append_nil, show (1 : Nat) = 0 + 1 from rfl, coverTo_succ, if_neg (show ¬ barI (sureM u) [sureB v] [sureR] (0 : Nat) < (sureM u).cover from sure_bar0 u v)]
  rfl

end Go.Proofs.YtmhhohancconaaaGreat

namespace Go.Proofs.YtmhhohancconaaaGreat
open Go.RowKit
set_option maxRecDepth 20000

/-- Two lengths suffice, with some plan. -/
def RetLeast (w : World) (e : Ending) (W : World) : Prop := ∃ a : Option Addr, ∃ n c : Nat, e = .returned (.tuple #[.int .i64 2, .slice a n c, .int .i64 0]) ∧ ∃ x, W = ext w x
set_option maxRecDepth 100000 in
set_option maxHeartbeats 8000000 in
theorem sureAwake_of (HLE0 : ∀ g w, PcsB w g → Calls Tryz.prog 19 #[.int .i64 100, .slice (some ⟨g, 0, none⟩) 2 2] w (RetLeast w)) (w : World) : Calls Tryz.prog 4 #[] w (Ret w (.bool true)) := by
  have HLE := Lib.hid HLE0
  clear HLE0
  go_enter Tryz.func4, Tryz.ntmps4
  go_wp2_with fail
  go_at_call 17; refine (sureBars_c _).mono ?_; rintro e w' ⟨gB, g1, v, u, rfl, hq, hl, hr, x0, rfl⟩
  obtain ⟨va, vc, rfl, -, -, -⟩ := hl.shape
  obtain ⟨ua, uc, rfl, -, -, -⟩ := hr.shape
  have HQ := Lib.hid hq
  have HL := Lib.hid hl
  have HR := Lib.hid hr
  have hf0 := fun w hl hr => free_c [sureB (.slice (some ⟨g1, 0, none⟩) 1 1)] [sureR] (.slice va 1 vc) (.slice ua 1 uc) 20 (sure_laid _) (by decide) w hl hr
  have hf1 := fun w hl hr => free_c [sureB (.slice (some ⟨g1, 0, none⟩) 1 1)] [sureR] (.slice va 1 vc) (.slice ua 1 uc) 21 (sure_laid _) (by decide) w hl hr
  rw [sure_free20] at hf0
  rw [sure_free21] at hf1
  have hck := fun w hq hl hr => Check18_ok (sureM (.slice (some ⟨gB, 0, none⟩) 1 1)) [sureB (.slice (some ⟨g1, 0, none⟩) 1 1)] [sureR] (.slice va 1 vc) (.slice ua 1 uc) (sure_member _) (sure_laid _) (by rw [sure_count]; decide) w hq hl hr
  rw [sure_findings] at hck
  have HF0 := Lib.hid hf0
  have HF1 := Lib.hid hf1
  have HCK := Lib.hid hck
  clear hf0 hf1 hck hq hl hr
  go_wp2_with fail
  go_at_call 18; refine (HF0.out _ (HL.out.below (by (repeat (first | exact grow_refl _ | refine grow_ext _ ?_ | refine grow_alloc _ ?_ | refine grow_drew ?_)))) (HR.out.below (by (repeat (first | exact grow_refl _ | refine grow_ext _ ?_ | refine grow_alloc _ ?_ | refine grow_drew ?_))))).mono ?_; rintro e w' ⟨rfl, x1, rfl⟩
  go_wp2_with fail
  go_at_call 18; refine (HF1.out _ (HL.out.below (by (repeat (first | exact grow_refl _ | refine grow_ext _ ?_ | refine grow_alloc _ ?_ | refine grow_drew ?_)))) (HR.out.below (by (repeat (first | exact grow_refl _ | refine grow_ext _ ?_ | refine grow_alloc _ ?_ | refine grow_drew ?_))))).mono ?_; rintro e w' ⟨rfl, x2, rfl⟩
  go_wp2_with fail
  go_at_call 7; refine (HCK.out _ (HQ.out.below (by (repeat (first | exact grow_refl _ | refine grow_ext _ ?_ | refine grow_alloc _ ?_ | refine grow_drew ?_)))) (HL.out.below (by (repeat (first | exact grow_refl _ | refine grow_ext _ ?_ | refine grow_alloc _ ?_ | refine grow_drew ?_)))) (HR.out.below (by (repeat (first | exact grow_refl _ | refine grow_ext _ ?_ | refine grow_alloc _ ?_ | refine grow_drew ?_))))).mono ?_; rintro e w' hret
  obtain ⟨a, c, rfl, hc, x3, rfl⟩ := fds_nothing hret
  clear hret
  go_wp2_with fail
  go_at_call 19; refine (HLE.out _ _ (Blk.new' (by simp only [World.size_alloc, size_ext]) _ _)).mono ?_; rintro e w' ⟨a2, n2, c2, rfl, x4, rfl⟩
  go_wp2
  go_ret
  exact Ret.of (by (repeat (first | exact grow_refl _ | refine grow_ext _ ?_ | refine grow_alloc _ ?_ | refine grow_drew ?_)))

end Go.Proofs.YtmhhohancconaaaGreat

