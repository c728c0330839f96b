/- VisC, VisD, VisE in one text. -/
import Derived.Test.YtmhhohancconaaaGreatVisK0
import Derived.Test.YtmhhohancconaaaGreatDAq
import Derived.Test.YtmhhohancconaaaGreatInvL
import Derived.Deep.DeepCutAuto
namespace Go.Proofs.YtmhhohancconaaaGreat
open Go Go.RowKit
set_option maxRecDepth 20000

theorem own_of_heap {w w' : World} {base s n : Nat} {e : TypeId} {v : Value} {xs : List Value} (h : w.ownsRow base e s v n xs) (hb : ∀ b, v.ownBlock = some b → w'.heap[b]? = w.heap[b]?) : w'.ownsRow base e s v n xs := by
  rcases h with ⟨h1, h2⟩
  refine ⟨h1, ?_⟩
  rcases h2 with h2 | ⟨g, cap, cur, rfl, g1, g2, g3⟩
  · exact .inl h2
  · exact .inr ⟨g, cap, cur, rfl, g1, (hb g rfl).trans g2, g3⟩
/-- Rows of different elements lie in different blocks. -/
theorem own_ne_own {w : World} {b1 b2 s1 s2 n1 n2 : Nat} {e1 e2 : TypeId} {v1 v2 : Value} {x1 x2 : List Value} (h1 : w.ownsRow b1 e1 s1 v1 n1 x1) (h2 : w.ownsRow b2 e2 s2 v2 n2 x2) (hne : e1 ≠ e2) : ∀ b, v1.ownBlock = some b → v2.ownBlock ≠ some b := by
  intro b q1 q2
  rcases h1.2 with ⟨rfl, -⟩ | ⟨g, cap, cur, rfl, -, a1, -⟩
  · simp [Value.ownBlock] at q1
  rcases h2.2 with ⟨rfl, -⟩ | ⟨g', cap', cur', rfl, -, a2, -⟩
  · simp [Value.ownBlock] at q2
  simp only [Value.ownBlock, Option.some.injEq] at q1 q2
  subst q1 q2
  rw [a1] at a2
  cases a2
  exact hne rfl
structure VbJ (B : Nat) (W1 : World) (G : Nat) (z : Array Value) (old : Value) (n : Nat) (xs : List Value) (lf : Int) (L : Array Bool) (vs : List Value) (W : World) : Prop where
  i4 : L.getD 4 true = true → vs.getD 4 undef = old
  o4 : L.getD 14 true = true → L.getD 4 true = true
  i11 : L.getD 11 true = true → W.ownsRow W1.heap.size 3 1 (vs.getD 11 undef) 2 [.int .i64 1, .int .i64 1]
  i12 : L.getD 12 true = true → L.getD 11 true = true ∧ vs.getD 12 undef = .agg #[.int .i64 0, .int .i64 lf, vs.getD 11 undef]
  i13 : L.getD 13 true = true → L.getD 12 true = true ∧ ∃ g, vs.getD 13 undef = .slice (some ⟨g, 0, none⟩) 1 1 ∧ W1.heap.size ≤ g ∧ Blk W g #[.int .i64 0, .int .i64 lf, vs.getD 11 undef] 140
  o14 : L.getD 14 true = true → L.getD 13 true = true
  o17 : L.getD 17 true = true → L.getD 14 true = true
  row0 : L.getD 14 true = false → W.ownsRow B 140 3 old n xs
  row1 : L.getD 14 true = true → W.ownsRow B 140 3 (vs.getD 14 undef) (n + 1) (xs ++ [.int .i64 0, .int .i64 lf, vs.getD 11 undef])
  blk0 : L.getD 17 true = false → Blk W G z 112
  blk1 : L.getD 17 true = true → Blk W G (z.setIfInBounds 3 (vs.getD 14 undef)) 112
  os : W.os = W1.os
  tape : W.tape = W1.tape
  output : W.output = W1.output
  size : W1.heap.size ≤ W.heap.size
  frame : ∀ k, k < W1.heap.size → k ≠ G → old.ownBlock ≠ some k → W.heap[k]? = W1.heap[k]?
  ltG : G < W1.heap.size
  lt : ∀ b, old.ownBlock = some b → b < W1.heap.size
section
variable {B G n : Nat} {W1 W W' : World} {z : Array Value} {old : Value} {xs : List Value} {lf : Int} {L L' : Array Bool} {vs vs' : List Value}
theorem VbJ.same (h : VbJ B W1 G z old n xs lf L vs W) (hk : ∀ k ∈ [4, 11, 12, 13, 14, 17], L.getD k true = L'.getD k true ∧ vs.getD k undef = vs'.getD k undef) : VbJ B W1 G z old n xs lf L' vs' W := by
  obtain ⟨a4, b4⟩ := hk 4 (by simp)
  obtain ⟨a11, b11⟩ := hk 11 (by simp)
  obtain ⟨a12, b12⟩ := hk 12 (by simp)
  obtain ⟨a13, b13⟩ := hk 13 (by simp)
  obtain ⟨a14, b14⟩ := hk 14 (by simp)
  obtain ⟨a17, -⟩ := hk 17 (by simp)
  obtain ⟨i4, o4, i11, i12, i13, o14, o17, r0, r1, k0, k1, h1, h2, h3, h4, h5, h6, h7⟩ := h
  rw [a4, b4] at i4
  rw [a14, a4] at o4
  rw [a11, b11] at i11
  rw [a12, a11, b12, b11] at i12
  rw [a13, a12, b13, b11] at i13
  rw [a14, a13] at o14
  rw [a17, a14] at o17
  rw [a14] at r0
  rw [a14, b14, b11] at r1
  rw [a17] at k0
  rw [a17, b14] at k1
  exact ⟨i4, o4, i11, i12, i13, o14, o17, r0, r1, k0, k1, h1, h2, h3, h4, h5, h6, h7⟩
theorem VbJ.grows (h : VbJ B W1 G z old n xs lf L vs W) (hb : Below W.heap.size W W') : VbJ B W1 G z old n xs lf L vs W' := by
  have hr : ∀ {base s m : Nat} {e : TypeId} {v : Value} {ys : List Value}, W.ownsRow base e s v m ys → W'.ownsRow base e s v m ys := fun {_ _ _ _ _ _} hw => own_of_heap hw fun b hb2 => hb.block b (hw.lt b hb2).2
  exact ⟨h.i4, h.o4, fun e => hr (h.i11 e), h.i12, fun e => by obtain ⟨q, g, q1, q2, q3⟩ := h.i13 e; exact ⟨q, g, q1, q2, q3.below hb⟩, h.o14, h.o17, fun e => hr (h.row0 e), fun e => hr (h.row1 e), fun e => (h.blk0 e).below hb, fun e => (h.blk1 e).below hb, hb.os.trans h.os, hb.tape.trans h.tape, hb.output.trans h.output, Nat.le_trans h.size hb.size, fun k k1 k2 k3 => by rw [hb.block k (Nat.lt_of_lt_of_le k1 h.size)]; exact h.frame k k1 k2 k3, h.ltG, h.lt⟩
theorem VbJ.part : PartG [4, 11, 12, 13, 14, 17] (VbJ B W1 G z old n xs lf) := ⟨fun _ _ _ _ _ hk h => h.same hk, fun _ _ _ x h => h.grows (below_ext _ x)⟩
theorem VbJ.init (hL : ∀ k ∈ [4, 11, 12, 13, 14, 17], L.getD k true = false) (hrow : W1.ownsRow B 140 3 old n xs) (hb : Blk W1 G z 112) : VbJ B W1 G z old n xs lf L vs W1.drew := by
  refine ⟨fun e => ?_, fun e => ?_, fun e => ?_, fun e => ?_, fun e => ?_, fun e => ?_, fun e => ?_, fun _ => hrow.drew, fun e => ?_, fun _ => hb, fun e => ?_, rfl, rfl, rfl, Nat.le_refl _, fun _ _ _ _ => rfl, hb.lt, fun b hb2 => (hrow.lt b hb2).2⟩
  · rw [hL 4 (by simp)] at e; cases e
  · rw [hL 14 (by simp)] at e; cases e
  · rw [hL 11 (by simp)] at e; cases e
  · rw [hL 12 (by simp)] at e; cases e
  · rw [hL 13 (by simp)] at e; cases e
  · rw [hL 14 (by simp)] at e; cases e
  · rw [hL 17 (by simp)] at e; cases e
  · rw [hL 14 (by simp)] at e; cases e
  · rw [hL 17 (by simp)] at e; cases e
theorem VbJ.no17 (h : VbJ B W1 G z old n xs lf L vs W) {k : Nat} (hk : k = 4 ∨ k = 14) (hun : L.getD k true = false) : L.getD 17 true = false := by
  cases e : L.getD 17 true
  · rfl
  · have h14 := h.o17 e
    rcases hk with rfl | rfl
    · rw [h.o4 h14] at hun; cases hun
    · rw [h14] at hun; cases hun
theorem VbJ.step4 (h : VbJ B W1 G z old n xs lf L vs W) (hi : 4 < vs.length) (hun : L.getD 4 true = false) {u : Value} (hu : u = old) : VbJ B W1 G z old n xs lf (L.setIfInBounds 4 true) (vs.set 4 u) W := by
  have h' := h
  have n14 : L.getD 14 true = false := by
    cases e : L.getD 14 true
    · rfl
    · have := h.o4 e; rw [hun] at this; cases this
  refine ⟨?_, ?_, ?_, ?_, ?_, ?_, ?_, ?_, ?_, ?_, ?_, h'.os, h'.tape, h'.output, h'.size, h'.frame, h'.ltG, h'.lt⟩
  · simp only [getD_self, getD_set_self' hi]; exact fun _ => hu
  · simp only [getD_other (show (4 : Nat) ≠ 14 by decide), getD_self]; intro e; rw [n14] at e; cases e
  · simp only [getD_other (show (4 : Nat) ≠ 11 by decide), getD_set_other (show (4 : Nat) ≠ 11 by decide)]; exact h'.i11
  · simp only [getD_other (show (4 : Nat) ≠ 12 by decide), getD_other (show (4 : Nat) ≠ 11 by decide), getD_set_other (show (4 : Nat) ≠ 12 by decide), getD_set_other (show (4 : Nat) ≠ 11 by decide)]; exact h'.i12
  · simp only [getD_other (show (4 : Nat) ≠ 13 by decide), getD_other (show (4 : Nat) ≠ 12 by decide), getD_set_other (show (4 : Nat) ≠ 13 by decide), getD_set_other (show (4 : Nat) ≠ 11 by decide)]; exact h'.i13
  · simp only [getD_other (show (4 : Nat) ≠ 14 by decide), getD_other (show (4 : Nat) ≠ 13 by decide)]; exact h'.o14
  · simp only [getD_other (show (4 : Nat) ≠ 17 by decide), getD_other (show (4 : Nat) ≠ 14 by decide)]; exact h'.o17
  · simp only [getD_other (show (4 : Nat) ≠ 14 by decide)]; exact h'.row0
  · simp only [getD_other (show (4 : Nat) ≠ 14 by decide), getD_set_other (show (4 : Nat) ≠ 14 by decide), getD_set_other (show (4 : Nat) ≠ 11 by decide)]; exact h'.row1
  · simp only [getD_other (show (4 : Nat) ≠ 17 by decide)]; exact h'.blk0
  · simp only [getD_other (show (4 : Nat) ≠ 17 by decide), getD_set_other (show (4 : Nat) ≠ 14 by decide)]; exact h'.blk1
theorem VbJ.step11 (h : VbJ B W1 G z old n xs lf L vs W) (hi : 11 < vs.length) (hun : L.getD 11 true = false) {u : Value} {x : World} (hu : (ext W x).ownsRow W.heap.size 3 1 u 2 [.int .i64 1, .int .i64 1]) : VbJ B W1 G z old n xs lf (L.setIfInBounds 11 true) (vs.set 11 u) (ext W x) := by
  have h' := h.grows (below_ext W x)
  have n11 : L.getD 11 true = false := hun
  have n12 : L.getD 12 true = false := by
    cases e : L.getD 12 true
    · rfl
    · have := (h.i12 e).1; rw [n11] at this; cases this
  have n13 : L.getD 13 true = false := by
    cases e : L.getD 13 true
    · rfl
    · have := (h.i13 e).1; rw [n12] at this; cases this
  have n14 : L.getD 14 true = false := by
    cases e : L.getD 14 true
    · rfl
    · have := h.o14 e; rw [n13] at this; cases this
  have n17 : L.getD 17 true = false := by
    cases e : L.getD 17 true
    · rfl
    · have := h.o17 e; rw [n14] at this; cases this
  refine ⟨?_, ?_, ?_, ?_, ?_, ?_, ?_, ?_, ?_, ?_, ?_, h'.os, h'.tape, h'.output, h'.size, h'.frame, h'.ltG, h'.lt⟩
  · simp only [getD_other (show (11 : Nat) ≠ 4 by decide), getD_set_other (show (11 : Nat) ≠ 4 by decide)]; exact h'.i4
  · simp only [getD_other (show (11 : Nat) ≠ 14 by decide), getD_other (show (11 : Nat) ≠ 4 by decide)]; exact h'.o4
  · simp only [getD_self, getD_set_self' hi]; exact fun _ => own_mono hu h.size
  · simp only [getD_other (show (11 : Nat) ≠ 12 by decide), getD_self, getD_set_other (show (11 : Nat) ≠ 12 by decide), getD_set_self' hi]; intro e; rw [n12] at e; cases e
  · simp only [getD_other (show (11 : Nat) ≠ 13 by decide), getD_other (show (11 : Nat) ≠ 12 by decide), getD_set_other (show (11 : Nat) ≠ 13 by decide), getD_set_self' hi]; intro e; rw [n13] at e; cases e
  · simp only [getD_other (show (11 : Nat) ≠ 14 by decide), getD_other (show (11 : Nat) ≠ 13 by decide)]; exact h'.o14
  · simp only [getD_other (show (11 : Nat) ≠ 17 by decide), getD_other (show (11 : Nat) ≠ 14 by decide)]; exact h'.o17
  · simp only [getD_other (show (11 : Nat) ≠ 14 by decide)]; exact h'.row0
  · simp only [getD_other (show (11 : Nat) ≠ 14 by decide), getD_set_other (show (11 : Nat) ≠ 14 by decide), getD_set_self' hi]; intro e; rw [n14] at e; cases e
  · simp only [getD_other (show (11 : Nat) ≠ 17 by decide)]; exact h'.blk0
  · simp only [getD_other (show (11 : Nat) ≠ 17 by decide), getD_set_other (show (11 : Nat) ≠ 14 by decide)]; exact h'.blk1
theorem VbJ.step12 (h : VbJ B W1 G z old n xs lf L vs W) (hi : 12 < vs.length) (hun : L.getD 12 true = false) (hA : L.getD 11 true = true) {u : Value} (hu : u = .agg #[.int .i64 0, .int .i64 lf, vs.getD 11 undef]) : VbJ B W1 G z old n xs lf (L.setIfInBounds 12 true) (vs.set 12 u) W := by
  have h' := h
  have n12 : L.getD 12 true = false := hun
  have n13 : L.getD 13 true = false := by
    cases e : L.getD 13 true
    · rfl
    · have := (h.i13 e).1; rw [n12] at this; cases this
  have n14 : L.getD 14 true = false := by
    cases e : L.getD 14 true
    · rfl
    · have := h.o14 e; rw [n13] at this; cases this
  have n17 : L.getD 17 true = false := by
    cases e : L.getD 17 true
    · rfl
    · have := h.o17 e; rw [n14] at this; cases this
  refine ⟨?_, ?_, ?_, ?_, ?_, ?_, ?_, ?_, ?_, ?_, ?_, h'.os, h'.tape, h'.output, h'.size, h'.frame, h'.ltG, h'.lt⟩
  · simp only [getD_other (show (12 : Nat) ≠ 4 by decide), getD_set_other (show (12 : Nat) ≠ 4 by decide)]; exact h'.i4
  · simp only [getD_other (show (12 : Nat) ≠ 14 by decide), getD_other (show (12 : Nat) ≠ 4 by decide)]; exact h'.o4
  · simp only [getD_other (show (12 : Nat) ≠ 11 by decide), getD_set_other (show (12 : Nat) ≠ 11 by decide)]; exact h'.i11
  · simp only [getD_self, getD_other (show (12 : Nat) ≠ 11 by decide), getD_set_self' hi, getD_set_other (show (12 : Nat) ≠ 11 by decide)]; exact fun _ => ⟨hA, hu⟩
  · simp only [getD_other (show (12 : Nat) ≠ 13 by decide), getD_self, getD_set_other (show (12 : Nat) ≠ 13 by decide), getD_set_other (show (12 : Nat) ≠ 11 by decide)]; intro e; rw [n13] at e; cases e
  · simp only [getD_other (show (12 : Nat) ≠ 14 by decide), getD_other (show (12 : Nat) ≠ 13 by decide)]; exact h'.o14
  · simp only [getD_other (show (12 : Nat) ≠ 17 by decide), getD_other (show (12 : Nat) ≠ 14 by decide)]; exact h'.o17
  · simp only [getD_other (show (12 : Nat) ≠ 14 by decide)]; exact h'.row0
  · simp only [getD_other (show (12 : Nat) ≠ 14 by decide), getD_set_other (show (12 : Nat) ≠ 14 by decide), getD_set_other (show (12 : Nat) ≠ 11 by decide)]; exact h'.row1
  · simp only [getD_other (show (12 : Nat) ≠ 17 by decide)]; exact h'.blk0
  · simp only [getD_other (show (12 : Nat) ≠ 17 by decide), getD_set_other (show (12 : Nat) ≠ 14 by decide)]; exact h'.blk1
theorem VbJ.step13 (h : VbJ B W1 G z old n xs lf L vs W) (hi : 13 < vs.length) (hun : L.getD 13 true = false) (hA : L.getD 12 true = true) {u : Value} (hu : u = .slice (some ⟨W.heap.size, 0, none⟩) 1 1) {cs : Array Value} (hcs : cs = #[.int .i64 0, .int .i64 lf, vs.getD 11 undef]) : VbJ B W1 G z old n xs lf (L.setIfInBounds 13 true) (vs.set 13 u) (W.alloc (.cells cs 140)) := by
  subst hcs
  have h' := h.grows (grow_alloc (.cells (#[.int .i64 0, .int .i64 lf, vs.getD 11 undef]) 140) (Below.refl _ W))
  have n13 : L.getD 13 true = false := hun
  have n14 : L.getD 14 true = false := by
    cases e : L.getD 14 true
    · rfl
    · have := h.o14 e; rw [n13] at this; cases this
  have n17 : L.getD 17 true = false := by
    cases e : L.getD 17 true
    · rfl
    · have := h.o17 e; rw [n14] at this; cases this
  refine ⟨?_, ?_, ?_, ?_, ?_, ?_, ?_, ?_, ?_, ?_, ?_, h'.os, h'.tape, h'.output, h'.size, h'.frame, h'.ltG, h'.lt⟩
  · simp only [getD_other (show (13 : Nat) ≠ 4 by decide), getD_set_other (show (13 : Nat) ≠ 4 by decide)]; exact h'.i4
  · simp only [getD_other (show (13 : Nat) ≠ 14 by decide), getD_other (show (13 : Nat) ≠ 4 by decide)]; exact h'.o4
  · simp only [getD_other (show (13 : Nat) ≠ 11 by decide), getD_set_other (show (13 : Nat) ≠ 11 by decide)]; exact h'.i11
  · simp only [getD_other (show (13 : Nat) ≠ 12 by decide), getD_other (show (13 : Nat) ≠ 11 by decide), getD_set_other (show (13 : Nat) ≠ 12 by decide), getD_set_other (show (13 : Nat) ≠ 11 by decide)]; exact h'.i12
  · simp only [getD_self, getD_other (show (13 : Nat) ≠ 12 by decide), getD_set_self' hi, getD_set_other (show (13 : Nat) ≠ 11 by decide)]; exact fun _ => ⟨hA, W.heap.size, hu, h.size, Blk.new _ _ _⟩
  · simp only [getD_other (show (13 : Nat) ≠ 14 by decide), getD_self]; exact fun _ => trivial
  · simp only [getD_other (show (13 : Nat) ≠ 17 by decide), getD_other (show (13 : Nat) ≠ 14 by decide)]; exact h'.o17
  · simp only [getD_other (show (13 : Nat) ≠ 14 by decide)]; exact h'.row0
  · simp only [getD_other (show (13 : Nat) ≠ 14 by decide), getD_set_other (show (13 : Nat) ≠ 14 by decide), getD_set_other (show (13 : Nat) ≠ 11 by decide)]; exact h'.row1
  · simp only [getD_other (show (13 : Nat) ≠ 17 by decide)]; exact h'.blk0
  · simp only [getD_other (show (13 : Nat) ≠ 17 by decide), getD_set_other (show (13 : Nat) ≠ 14 by decide)]; exact h'.blk1
theorem VbJ.step14 (h : VbJ B W1 G z old n xs lf L vs W) (hi : 14 < vs.length) (hun : L.getD 14 true = false) (hA : L.getD 13 true = true) (h4 : L.getD 4 true = true) {u : Value} (hu : W'.ownsRow B 140 3 u (n + 1) (xs ++ [.int .i64 0, .int .i64 lf, vs.getD 11 undef])) (hg : W.grownBy W' old.ownBlock) : VbJ B W1 G z old n xs lf (L.setIfInBounds 14 true) (vs.set 14 u) W' := by
  have n14 : L.getD 14 true = false := hun
  have n17 : L.getD 17 true = false := by
    cases e : L.getD 17 true
    · rfl
    · have := h.o17 e; rw [n14] at this; cases this
  have h11 := (h.i12 (h.i13 hA).1).1
  have hold := h.row0 hun
  have hne : ∀ b, W1.heap.size ≤ b → some b ≠ old.ownBlock := fun b hb e => by have := h.lt b e.symm; omega
  have hr : W'.ownsRow W1.heap.size 3 1 (vs.getD 11 undef) 2 [.int .i64 1, .int .i64 1] := own_of_heap (h.i11 h11) fun b hb => hg.block b ((h.i11 h11).lt b hb).2 (hne b ((h.i11 h11).lt b hb).1)
  have hfr : ∀ k, k < W1.heap.size → k ≠ G → old.ownBlock ≠ some k → W'.heap[k]? = W1.heap[k]? := fun k k1 k2 k3 => (hg.block k (Nat.lt_of_lt_of_le k1 h.size) (fun e => k3 e.symm)).trans (h.frame k k1 k2 k3)
  refine ⟨?_, ?_, ?_, ?_, ?_, ?_, ?_, ?_, ?_, ?_, ?_, hg.os.trans h.os, hg.tape.trans h.tape, hg.output.trans h.output, Nat.le_trans h.size hg.size, hfr, h.ltG, h.lt⟩
  · simp only [getD_other (show (14 : Nat) ≠ 4 by decide), getD_set_other (show (14 : Nat) ≠ 4 by decide)]; exact h.i4
  · simp only [getD_self, getD_other (show (14 : Nat) ≠ 4 by decide)]; exact fun _ => h4
  · simp only [getD_other (show (14 : Nat) ≠ 11 by decide), getD_set_other (show (14 : Nat) ≠ 11 by decide)]; exact fun _ => hr
  · simp only [getD_other (show (14 : Nat) ≠ 12 by decide), getD_other (show (14 : Nat) ≠ 11 by decide), getD_set_other (show (14 : Nat) ≠ 12 by decide), getD_set_other (show (14 : Nat) ≠ 11 by decide)]; exact h.i12
  · simp only [getD_other (show (14 : Nat) ≠ 13 by decide), getD_other (show (14 : Nat) ≠ 12 by decide), getD_set_other (show (14 : Nat) ≠ 13 by decide), getD_set_other (show (14 : Nat) ≠ 11 by decide)]; exact fun e => by obtain ⟨q, g, q1, q2, q3⟩ := h.i13 e; exact ⟨q, g, q1, q2, q3.grown hg (hne g q2)⟩
  · simp only [getD_self, getD_other (show (14 : Nat) ≠ 13 by decide)]; exact fun _ => hA
  · simp only [getD_other (show (14 : Nat) ≠ 17 by decide), getD_self]; exact fun _ => trivial
  · simp only [getD_self]; exact fun e => by cases e
  · simp only [getD_self, getD_set_self' hi, getD_set_other (show (14 : Nat) ≠ 11 by decide)]; exact fun _ => hu
  · simp only [getD_other (show (14 : Nat) ≠ 17 by decide)]; exact fun e => (h.blk0 e).grown hg ((h.blk0 e).ne_row hold (by decide))
  · simp only [getD_other (show (14 : Nat) ≠ 17 by decide), getD_set_self' hi]; intro e; rw [n17] at e; cases e
theorem VbJ.step17 (h : VbJ B W1 G z old n xs lf L vs W) (hun : L.getD 17 true = false) (hA : L.getD 14 true = true) {v : Value} (hv : v = vs.getD 14 undef) (hoth : ∀ k, k ≠ G → W'.heap[k]? = W.heap[k]?) (hs : W'.heap.size = W.heap.size) (hr : W'.os = W.os ∧ W'.tape = W.tape ∧ W'.output = W.output) (hb : Blk W' G (z.setIfInBounds 3 v) 112) : VbJ B W1 G z old n xs lf (L.setIfInBounds 17 true) vs W' := by
  have hG := h.blk0 hun
  have ho : ∀ {base s m : Nat} {e : TypeId} {u : Value} {ys : List Value}, 112 ≠ e → W.ownsRow base e s u m ys → W'.ownsRow base e s u m ys := fun {_ _ _ _ _ _} he hw => own_of_heap hw fun b hb2 => hoth b (fun q => hG.ne_row hw he (by rw [hb2, q]))
  refine ⟨?_, ?_, ?_, ?_, ?_, ?_, ?_, ?_, ?_, ?_, ?_, hr.1.trans h.os, hr.2.1.trans h.tape, hr.2.2.trans h.output, by rw [hs]; exact h.size, fun k k1 k2 k3 => (hoth k k2).trans (h.frame k k1 k2 k3), h.ltG, h.lt⟩
  · simp only [getD_other (show (17 : Nat) ≠ 4 by decide)]; exact h.i4
  · simp only [getD_other (show (17 : Nat) ≠ 14 by decide), getD_other (show (17 : Nat) ≠ 4 by decide)]; exact h.o4
  · simp only [getD_other (show (17 : Nat) ≠ 11 by decide)]; exact fun e => ho (by decide) (h.i11 e)
  · simp only [getD_other (show (17 : Nat) ≠ 12 by decide), getD_other (show (17 : Nat) ≠ 11 by decide)]; exact h.i12
  · simp only [getD_other (show (17 : Nat) ≠ 13 by decide), getD_other (show (17 : Nat) ≠ 12 by decide)]; exact fun e => by obtain ⟨q, g, q1, q2, q3⟩ := h.i13 e; exact ⟨q, g, q1, q2, q3.of_block (hoth g (by have := h.ltG; omega))⟩
  · simp only [getD_other (show (17 : Nat) ≠ 14 by decide), getD_other (show (17 : Nat) ≠ 13 by decide)]; exact h.o14
  · simp only [getD_self, getD_other (show (17 : Nat) ≠ 14 by decide)]; exact fun _ => hA
  · simp only [getD_other (show (17 : Nat) ≠ 14 by decide)]; exact fun e => ho (by decide) (h.row0 e)
  · simp only [getD_other (show (17 : Nat) ≠ 14 by decide)]; exact fun e => ho (by decide) (h.row1 e)
  · simp only [getD_self]; exact fun e => by cases e
  · simp only [getD_self]; exact fun _ => hv ▸ hb
end
end Go.Proofs.YtmhhohancconaaaGreat

namespace Go.Proofs.YtmhhohancconaaaGreat
open Go Go.RowKit
set_option maxRecDepth 20000

theorem info_bar : (Tryz.prog.info? 140).map (fun i => (i.zero, i.size, i.bytes)) = some (some (.agg #[.int .i64 0, .int .i64 0, .slice none 0 0]), 3, 40) := by kernel_rfl
def flatB (us : List Value) : List Value := us.flatMap fun u => [.int .i64 0, .int .i64 0, u]
theorem flatB_snoc (us : List Value) (u : Value) : flatB (us ++ [u]) = flatB us ++ [.int .i64 0, .int .i64 0, u] := by simp [flatB]
theorem own_below {w w' : World} {base s n : Nat} {e : TypeId} {v : Value} {xs : List Value} (h : w.ownsRow base e s v n xs) (hb : Below w.heap.size w w') : w'.ownsRow base e s v n xs := own_of_heap h fun b hb2 => hb.block b (h.lt b hb2).2
/-- Two open lengths, their pieces in blocks of two numbers each. -/
structure Op2 (w : World) (go : Nat) (cs : Array Value) (gA gB : Nat) (a b p1 p2 q1 q2 : Int) : Prop where
  blk : Blk w go cs 140
  c0 : cs[0]? = some (.int .i64 0)
  c1 : cs[1]? = some (.int .i64 a)
  c2 : cs[2]? = some (.slice (some ⟨gA, 0, none⟩) 2 2)
  c3 : cs[3]? = some (.int .i64 0)
  c4 : cs[4]? = some (.int .i64 b)
  c5 : cs[5]? = some (.slice (some ⟨gB, 0, none⟩) 2 2)
  pa : Blk w gA #[.int .i64 p1, .int .i64 p2] 3
  pb : Blk w gB #[.int .i64 q1, .int .i64 q2] 3
  ne : gA ≠ gB
theorem blk_ne {w : World} {a b : Nat} {x y : Array Value} {s t : TypeId} (h1 : Blk w a x s) (h2 : Blk w b y t) (hne : s ≠ t) : a ≠ b := fun e => by
  subst e
  unfold Blk at h1 h2
  rw [h1] at h2
  cases h2
  exact hne rfl
theorem SrchAt.neO {w : World} {gS g gO c4 : Nat} {best : Value} (h : SrchAt w gS g gO c4 best) : gO ≠ gS := fun e => by
  have h0 := h.o0
  rw [e, h.blk.cell 0] at h0
  simp at h0
theorem SrchAt.neP {w : World} {gS g gO c4 : Nat} {best : Value} (h : SrchAt w gS g gO c4 best) : g ≠ gS := blk_ne h.pcs h.blk (by decide)
theorem SrchAt.kept {w W : World} {gS g gO c4 : Nat} {b0 best : Value} (h : SrchAt w gS g gO c4 b0) (hg : ∀ k, k < w.heap.size → k ≠ gS → W.heap[k]? = w.heap[k]?)
    (hb : Blk W gS #[.int .i64 100, .slice (some ⟨g, 0, none⟩) 2 2, .slice (some ⟨gO, 0, none⟩) 4 c4, best] 112) : SrchAt W gS g gO c4 best := by
  have hO := hg gO (World.block_lt_of_cell? w _ h.o0) h.neO
  have hc : ∀ (i : Nat) (v : Value), w.cell? ⟨gO, i, none⟩ = some v → W.cell? ⟨gO, i, none⟩ = some v := fun i v e => by rw [World.cell?_of_block (w := w) hO]; exact e
  exact ⟨hb, Blk.of_block h.pcs (hg g (Blk.lt h.pcs) h.neP), hc 0 _ h.o0, hc 1 _ h.o1, hc 2 _ h.o2, hc 3 _ h.o3⟩
/-- The best so far has n lengths, all used up; but for the search's block, what was there is as it was. -/
def BestK (w : World) (gS g gO c4 n : Nat) (W : World) : Prop := w.grownBy W (some gS) ∧ ∃ old us, us.length = n ∧ SrchAt W gS g gO c4 old ∧ W.ownsRow w.heap.size 140 3 old n (flatB us) ∧ ∀ u ∈ us, W.ownsRow w.heap.size 3 1 u 2 [.int .i64 1, .int .i64 1]
def RetV (w : World) (gS g gO c4 : Nat) (e : Ending) (W : World) : Prop := (∃ v, e = .returned v) ∧ BestK w gS g gO c4 2 W
theorem grown_next {w wr W1 W : World} {gS g gO c4 j : Nat} {z : Array Value} {b0 old : Value} {us vs : List Value} {L : Array Bool} (hS0 : SrchAt w gS g gO c4 b0) (hg : w.grownBy wr (some gS)) (hS : SrchAt wr gS g gO c4 old) (hR : wr.ownsRow w.heap.size 140 3 old j (flatB us)) (hl : us.length = j) (hU : ∀ u ∈ us, wr.ownsRow w.heap.size 3 1 u 2 [.int .i64 1, .int .i64 1])
    (hb : Below wr.heap.size wr W1) (hz : ∀ x, z.setIfInBounds 3 x = #[.int .i64 100, .slice (some ⟨g, 0, none⟩) 2 2, .slice (some ⟨gO, 0, none⟩) 4 c4, x]) (hJ : VbJ w.heap.size W1 gS z old j (flatB us) 0 L vs W) (h17 : L.getD 17 true = true) (h14 : L.getD 14 true = true) (h11 : L.getD 11 true = true) : BestK w gS g gO c4 (j + 1) W := by
  have hlt : ∀ b, old.ownBlock = some b → w.heap.size ≤ b := fun b hb => (hR.lt b hb).1
  have hR1 := own_below hR hb
  have hsz : w.heap.size ≤ W1.heap.size := Nat.le_trans hg.size hb.size
  have hG : w.grownBy W (some gS) := ⟨hJ.os.trans (hb.os.trans hg.os), hJ.tape.trans (hb.tape.trans hg.tape), hJ.output.trans (hb.output.trans hg.output), Nat.le_trans hsz hJ.size, fun k k1 k2 => by
    have hk : k ≠ gS := fun e => k2 (by rw [e])
    rw [hJ.frame k (by omega) hk (fun e => by have := hlt k e; omega), hb.block k (Nat.lt_of_lt_of_le k1 hg.size)]
    exact hg.block k k1 k2⟩
  refine ⟨hG, _, us ++ [vs.getD 11 undef], by simp [hl], hS0.kept (fun k k1 k2 => hG.block k k1 (fun e => k2 (Option.some.inj e))) (hz _ ▸ hJ.blk1 h17), by rw [flatB_snoc]; exact hJ.row1 h14, fun u hu => ?_⟩
  rcases List.mem_append.1 hu with hu | hu
  · have hu1 := own_below (hU u hu) hb
    exact own_of_heap hu1 fun b q => hJ.frame b (hu1.lt b q).2 (fun e => (Blk.ne_row (hS.blk.below hb) hu1 (by decide)) (by rw [q, e])) (own_ne_own hu1 hR1 (by decide) b q)
  · rw [List.mem_singleton.1 hu]
    exact own_mono (hJ.i11 h11) hsz
theorem Op2.at {w : World} {go gA gB : Nat} {cs : Array Value} (h : Op2 w go cs gA gB 0 0 1 1 1 1) {j : Nat} (hj : j < 2) : ∃ gP, Blk w gP #[.int .i64 1, .int .i64 1] 3 ∧ w.cell? ⟨go, j * 3, none⟩ = some (.int .i64 0) ∧ w.cell? ⟨go, j * 3 + 1, none⟩ = some (.int .i64 0) ∧ w.cell? ⟨go, j * 3 + 2, none⟩ = some (.slice (some ⟨gP, 0, none⟩) 2 2) := by
  rcases (show j = 0 ∨ j = 1 by omega) with rfl | rfl
  · exact ⟨gA, h.pa, (h.blk.cell _).trans h.c0, (h.blk.cell _).trans h.c1, (h.blk.cell _).trans h.c2⟩
  · exact ⟨gB, h.pb, (h.blk.cell _).trans h.c3, (h.blk.cell _).trans h.c4, (h.blk.cell _).trans h.c5⟩
theorem Op2.same {w W : World} {go gA gB : Nat} {cs : Array Value} {a b p1 p2 q1 q2 : Int} (h : Op2 w go cs gA gB a b p1 p2 q1 q2) (hg : ∀ k, k = go ∨ k = gA ∨ k = gB → k < w.heap.size → W.heap[k]? = w.heap[k]?) : Op2 W go cs gA gB a b p1 p2 q1 q2 :=
  ⟨h.blk.of_block (hg _ (.inl rfl) h.blk.lt), h.c0, h.c1, h.c2, h.c3, h.c4, h.c5, h.pa.of_block (hg _ (.inr (.inl rfl)) h.pa.lt), h.pb.of_block (hg _ (.inr (.inr rfl)) h.pb.lt), h.ne⟩
theorem Op2.neS {w : World} {go gA gB gS g gO c4 : Nat} {cs : Array Value} {best : Value} {a b p1 p2 q1 q2 : Int} (h : Op2 w go cs gA gB a b p1 p2 q1 q2) (hS : SrchAt w gS g gO c4 best) : go ≠ gS ∧ gA ≠ gS ∧ gB ≠ gS := ⟨blk_ne h.blk hS.blk (by decide), blk_ne h.pa hS.blk (by decide), blk_ne h.pb hS.blk (by decide)⟩
theorem Op2.grown {w W : World} {go gA gB gS g gO c4 : Nat} {cs : Array Value} {best : Value} {a b p1 p2 q1 q2 : Int} (h : Op2 w go cs gA gB a b p1 p2 q1 q2) (hS : SrchAt w gS g gO c4 best) (hg : w.grownBy W (some gS)) : Op2 W go cs gA gB a b p1 p2 q1 q2 := by
  obtain ⟨n1, n2, n3⟩ := h.neS hS
  refine h.same fun k hk hl => hg.block k hl ?_
  rcases hk with rfl | rfl | rfl <;> exact fun e => by cases e; contradiction
set_option maxRecDepth 100000 in
set_option maxHeartbeats 8000000 in
theorem v4_c (gS g gO c4 go c gA gB : Nat) (cs : Array Value) (_hc : 2 ≤ c) (_hcm : c ≤ 9223372036854775807) (w : World) (h : SrchAt w gS g gO c4 (.slice none 0 0)) (h2 : Op2 w go cs gA gB 0 0 1 1 1 1) :
    Calls Tryz.prog 43 #[.pointer (some ⟨gS, 0, none⟩), .int .i64 4, .slice (some ⟨go, 0, none⟩) 2 c] w (RetV w gS g gO c4) := by
  have s2 : w.cell? ⟨gS, 2, none⟩ = some (.slice (some ⟨gO, 0, none⟩) 4 c4) := h.blk.cell 2
  have s3 : w.cell? ⟨gS, 3, none⟩ = some (.slice none 0 0) := h.blk.cell 3
  have f3 : w.frozen? ⟨gS, 3, none⟩ = false := h.blk.frozen 3
  have HS0 := Lib.hid h
  have HO := Lib.hid h2
  clear h h2
  go_enter Tryz.func43, Tryz.ntmps43
  go_wp2_with fail
  go_loopw [40] (fun i wr => ∃ j : Nat, j ≤ 2 ∧ i = .int .i64 j ∧ BestK w gS g gO c4 j wr) (fun i _ => 2 - (intOf i).toNat)
  case atStart =>
    refine ⟨0, by omega, rfl, ⟨rfl, rfl, rfl, by simp [World.setCell], fun k k1 k2 => Below.heap_setCell _ _ _ _ (fun e => k2 (by rw [e]))⟩, .slice none 0 0, [], rfl, HS0.out.kept (fun k k1 k2 => Below.heap_setCell _ _ _ _ k2) (HS0.out.blk.set 3 _), World.ownsRow_nil _ _ _ _, fun u hu => by cases hu⟩
  case round =>
    clear s2 s3 f3
    obtain ⟨j, hj, rfl, hg, old, us, hlu, hS, hR, hU⟩ := hrel
    obtain ⟨W0, hW0⟩ : ∃ W : World, W = wr := ⟨_, rfl⟩
    subst hW0
    by_cases hlt : j < 2
    · obtain ⟨ao, co, rfl, -, -, -⟩ := own_shape hR
      obtain ⟨gP, hpp, e0, e1, e2⟩ := (HO.out.grown HS0.out hg).at hlt
      have hne2 : some gP ≠ (Value.slice ao j co).ownBlock := Blk.ne_row hpp hR (by decide)
      have HNP0 := Lib.hid (show gP ≠ gS from blk_ne hpp hS.blk (by decide))
      have HNP1 := Lib.hid (show (Value.slice ao j co).ownBlock ≠ some gP from fun e => hne2 e.symm)
      have hltS := hS.blk.lt
      have HG := Lib.hid hg
      have HS := Lib.hid hS
      have HR := Lib.hid hR
      have HU := Lib.hid hU
      have HP0 := Lib.hid hpp
      clear hg hS hR hU hpp hne2
      have q2 : (j : Int) < 2 := by omega
      go_upto_region 6 with fail
      refine world_mask (fun W => Below W0.heap.size W0 W ∧ Blk W W0.heap.size #[.int .i64 0, .int .i64 0, .slice (some ⟨gP, 0, none⟩) 2 2] 140) _ ⟨?mb, ?mk⟩ ?_
      case mb => (repeat (first | exact grow_refl _ | refine grow_ext _ ?_ | refine grow_alloc _ ?_ | refine grow_drew ?_))
      case mk => exact Blk.new _ _ _
      rintro W1 ⟨hb2, hbb⟩
      clear e0 e1 e2
      have HB := Lib.hid (show Below w.heap.size W1 W1 from Below.refl _ _)
      have HSZ := Lib.hid (show w.heap.size ≤ W1.heap.size from Nat.le_trans HG.out.size hb2.size)
      have HB2 := Lib.hid hb2
      have HBB0 := Lib.hid hbb
      have HNB := Lib.hid (show W0.heap.size ≠ gS ∧ (Value.slice ao j co).ownBlock ≠ some W0.heap.size from ⟨by omega, fun e => by have := (HR.out.lt _ e).2; omega⟩)
      have HP := Lib.hid (HP0.out.below hb2)
      have HNP := Lib.hid (And.intro HNP0.out HNP1.out)
      generalize hgb : W0.heap.size = gb at HBB0 HNB ⊢
      have HBB := HBB0
      have HLT := Lib.hid hlt
      clear hb2 hbb HBB0 HP0 HNP0 HNP1 hltS hgb hlt q2
      have hpart : PartG [4, 11, 12, 13, 14, 17] (VbJ w.heap.size W1 gS #[.int .i64 100, .slice (some ⟨g, 0, none⟩) 2 2, .slice (some ⟨gO, 0, none⟩) 4 c4, .slice ao j co] (.slice ao j co) j (flatB us) 0) := VbJ.part
      have HPART := Lib.hid hpart
      clear hpart
      refine wp_region_G [.pointer (some ⟨gS, 0, none⟩), .pointer (some ⟨gS, 0, none⟩), .pointer (some ⟨gS, 0, none⟩), .pointer (some ⟨gS, 3, none⟩), undef, .pointer (some ⟨gb, 0, none⟩), .int .i64 0, .pointer (some ⟨gb, 1, none⟩), .int .i64 0, .pointer (some ⟨gb, 2, none⟩), .slice (some ⟨gP, 0, none⟩) 2 2, undef, undef, undef, undef, .pointer (some ⟨gS, 0, none⟩), .pointer (some ⟨gS, 3, none⟩), undef] [4, 11, 12, 13, 14, 17] (VbJ w.heap.size W1 gS #[.int .i64 100, .slice (some ⟨g, 0, none⟩) 2 2, .slice (some ⟨gO, 0, none⟩) 4 c4, .slice ao j co] (.slice ao j co) j (flatB us) 0) (by kernel_rfl) (by kernel_rfl) ?_ ?_ ?_
      · intro vs hlen
        refine VbJ.init (fun k hk => repL ?_) (own_below HR.out HB2.out) (HS.out.blk.below HB2.out)
        simp only [List.mem_cons, List.not_mem_nil, or_false] at hk
        show k < 18
        omega
      · intro L vs W i hlen hJ hi
        obtain ⟨x0, vs0, rfl, hlen0⟩ := len_cons hlen
        obtain ⟨x1, vs1, rfl, hlen1⟩ := len_cons hlen0
        obtain ⟨x2, vs2, rfl, hlen2⟩ := len_cons hlen1
        obtain ⟨x3, vs3, rfl, hlen3⟩ := len_cons hlen2
        obtain ⟨x4, vs4, rfl, hlen4⟩ := len_cons hlen3
        obtain ⟨x5, vs5, rfl, hlen5⟩ := len_cons hlen4
        obtain ⟨x6, vs6, rfl, hlen6⟩ := len_cons hlen5
        obtain ⟨x7, vs7, rfl, hlen7⟩ := len_cons hlen6
        obtain ⟨x8, vs8, rfl, hlen8⟩ := len_cons hlen7
        obtain ⟨x9, vs9, rfl, hlen9⟩ := len_cons hlen8
        obtain ⟨x10, vs10, rfl, hlen10⟩ := len_cons hlen9
        obtain ⟨x11, vs11, rfl, hlen11⟩ := len_cons hlen10
        obtain ⟨x12, vs12, rfl, hlen12⟩ := len_cons hlen11
        obtain ⟨x13, vs13, rfl, hlen13⟩ := len_cons hlen12
        obtain ⟨x14, vs14, rfl, hlen14⟩ := len_cons hlen13
        obtain ⟨x15, vs15, rfl, hlen15⟩ := len_cons hlen14
        obtain ⟨x16, vs16, rfl, hlen16⟩ := len_cons hlen15
        obtain ⟨x17, vs17, rfl, hlen17⟩ := len_cons hlen16
        obtain rfl := len_nil hlen17
        clear hlen hlen0 hlen1 hlen2 hlen3 hlen4 hlen5 hlen6 hlen7 hlen8 hlen9 hlen10 hlen11 hlen12 hlen13 hlen14 hlen15 hlen16 hlen17
        obtain ⟨hun, o, ho, hd⟩ := mem_ready.1 hi
        have hin : i < 18 := by have := (Array.getElem?_eq_some_iff.1 ho).1; simpa using this
        refine wpOp_free (B := fun a' W' => ∃ x0 x1 x2 x3 x4 x5 x6 x7 x8 x9 x10 x11 x12 x13 x14 x15 x16 x17, a' = putAll _ [x0, x1, x2, x3, x4, x5, x6, x7, x8, x9, x10, x11, x12, x13, x14, x15, x16, x17] _ ∧ InvG _ _ _ [x0, x1, x2, x3, x4, x5, x6, x7, x8, x9, x10, x11, x12, x13, x14, x15, x16, x17] (L.setIfInBounds i true) W') (fun _ _ h => by obtain ⟨x0, x1, x2, x3, x4, x5, x6, x7, x8, x9, x10, x11, x12, x13, x14, x15, x16, x17, h1, h2⟩ := h; exact ⟨[x0, x1, x2, x3, x4, x5, x6, x7, x8, x9, x10, x11, x12, x13, x14, x15, x16, x17], rfl, h1, h2⟩) ?_
        intro K HK
        simp only [putAll_cons, putAll_nil, put_some, put_none, List.setIfInBounds_toArray, List.set_cons_succ, List.set_cons_zero] at HK ⊢
        have hbb := HBB.out.of_block (hJ.part.frame gb HBB.out.lt HNB.out.1 HNB.out.2)
        have q0 : W.cell? ⟨gb, 0, none⟩ = some (.int .i64 0) := hbb.cell 0
        have q1 : W.cell? ⟨gb, 1, none⟩ = some (.int .i64 0) := hbb.cell 1
        have q2 : W.cell? ⟨gb, 2, none⟩ = some (.slice (some ⟨gP, 0, none⟩) 2 2) := hbb.cell 2
        clear hbb
        rcases (show i = 0 ∨ i = 1 ∨ i = 2 ∨ i = 3 ∨ i = 4 ∨ i = 5 ∨ i = 6 ∨ i = 7 ∨ i = 8 ∨ i = 9 ∨ i = 10 ∨ i = 11 ∨ i = 12 ∨ i = 13 ∨ i = 14 ∨ i = 15 ∨ i = 16 ∨ i = 17 by omega) with rfl | rfl | rfl | rfl | rfl | rfl | rfl | rfl | rfl | rfl | rfl | rfl | rfl | rfl | rfl | rfl | rfl | rfl
        · obtain rfl := Option.some.inj ho
          refine wpOp_of_list (by rfl) ?_
          go_wp2
          exact HK.out _ _ ⟨_, _, _, _, _, _, _, _, _, _, _, _, _, _, _, _, _, _, rfl, hJ.up HPART.out 0 (by decide) (show 0 < 18 by decide) rfl⟩
        · obtain rfl := Option.some.inj ho
          refine wpOp_of_list (by rfl) ?_
          go_wp2
          exact HK.out _ _ ⟨_, _, _, _, _, _, _, _, _, _, _, _, _, _, _, _, _, _, rfl, hJ.up HPART.out 1 (by decide) (show 1 < 18 by decide) rfl⟩
        · obtain rfl := Option.some.inj ho
          have d1 : x1 = .pointer (some ⟨gS, 0, none⟩) := hJ.val 1 (show 1 < 18 by decide) (by decide) (getD_upJ (hd ⟨1, .data⟩ (by simp) (by rfl)))
          subst d1
          refine wpOp_of_list (by rfl) ?_
          go_wp2
          exact HK.out _ _ ⟨_, _, _, _, _, _, _, _, _, _, _, _, _, _, _, _, _, _, rfl, hJ.up HPART.out 2 (by decide) (show 2 < 18 by decide) rfl⟩
        · obtain rfl := Option.some.inj ho
          have d2 : x2 = .pointer (some ⟨gS, 0, none⟩) := hJ.val 2 (show 2 < 18 by decide) (by decide) (getD_upJ (hd ⟨2, .data⟩ (by simp) (by rfl)))
          subst d2
          refine wpOp_of_list (by rfl) ?_
          go_wp2
          exact HK.out _ _ ⟨_, _, _, _, _, _, _, _, _, _, _, _, _, _, _, _, _, _, rfl, hJ.up HPART.out 3 (by decide) (show 3 < 18 by decide) rfl⟩
        · obtain rfl := Option.some.inj ho
          have d3 : x3 = .pointer (some ⟨gS, 3, none⟩) := hJ.val 3 (show 3 < 18 by decide) (by decide) (getD_upJ (hd ⟨3, .data⟩ (by simp) (by rfl)))
          subst d3
          have hc : W.cell? ⟨gS, 3, none⟩ = some (.slice ao j co) := ((hJ.part.blk0 (hJ.part.no17 (.inl rfl) hun)).cell 3).trans rfl
          refine wpOp_of_list (by rfl) ?_
          go_wp2
          exact HK.out _ _ ⟨_, _, _, _, _, _, _, _, _, _, _, _, _, _, _, _, _, _, rfl, hJ.spec 4 (by decide) _ (hJ.part.step4 (show 4 < 18 by decide) hun rfl)⟩
        · obtain rfl := Option.some.inj ho
          refine wpOp_of_list (by rfl) ?_
          go_wp2
          exact HK.out _ _ ⟨_, _, _, _, _, _, _, _, _, _, _, _, _, _, _, _, _, _, rfl, hJ.up HPART.out 5 (by decide) (show 5 < 18 by decide) rfl⟩
        · obtain rfl := Option.some.inj ho
          have d5 : x5 = .pointer (some ⟨gb, 0, none⟩) := hJ.val 5 (show 5 < 18 by decide) (by decide) (getD_upJ (hd ⟨5, .data⟩ (by simp) (by rfl)))
          subst d5
          refine wpOp_of_list (by rfl) ?_
          go_wp2
          exact HK.out _ _ ⟨_, _, _, _, _, _, _, _, _, _, _, _, _, _, _, _, _, _, rfl, hJ.up HPART.out 6 (by decide) (show 6 < 18 by decide) rfl⟩
        · obtain rfl := Option.some.inj ho
          refine wpOp_of_list (by rfl) ?_
          go_wp2
          exact HK.out _ _ ⟨_, _, _, _, _, _, _, _, _, _, _, _, _, _, _, _, _, _, rfl, hJ.up HPART.out 7 (by decide) (show 7 < 18 by decide) rfl⟩
        · obtain rfl := Option.some.inj ho
          have d7 : x7 = .pointer (some ⟨gb, 1, none⟩) := hJ.val 7 (show 7 < 18 by decide) (by decide) (getD_upJ (hd ⟨7, .data⟩ (by simp) (by rfl)))
          subst d7
          refine wpOp_of_list (by rfl) ?_
          go_wp2
          exact HK.out _ _ ⟨_, _, _, _, _, _, _, _, _, _, _, _, _, _, _, _, _, _, rfl, hJ.up HPART.out 8 (by decide) (show 8 < 18 by decide) rfl⟩
        · obtain rfl := Option.some.inj ho
          refine wpOp_of_list (by rfl) ?_
          go_wp2
          exact HK.out _ _ ⟨_, _, _, _, _, _, _, _, _, _, _, _, _, _, _, _, _, _, rfl, hJ.up HPART.out 9 (by decide) (show 9 < 18 by decide) rfl⟩
        · obtain rfl := Option.some.inj ho
          have d9 : x9 = .pointer (some ⟨gb, 2, none⟩) := hJ.val 9 (show 9 < 18 by decide) (by decide) (getD_upJ (hd ⟨9, .data⟩ (by simp) (by rfl)))
          subst d9
          refine wpOp_of_list (by rfl) ?_
          go_wp2
          exact HK.out _ _ ⟨_, _, _, _, _, _, _, _, _, _, _, _, _, _, _, _, _, _, rfl, hJ.up HPART.out 10 (by decide) (show 10 < 18 by decide) rfl⟩
        · obtain rfl := Option.some.inj ho
          have d10 : x10 = .slice (some ⟨gP, 0, none⟩) 2 2 := hJ.val 10 (show 10 < 18 by decide) (by decide) (getD_upJ (hd ⟨10, .data⟩ (by simp) (by rfl)))
          subst d10
          have HPP := Lib.hid (HP.out.of_block (hJ.part.frame gP HP.out.lt HNP.out.1 HNP.out.2))
          refine wpOp_of_list (by rfl) ?_
          go_wp2_with fail
          go_at_call 70; refine (clone2_c gP 1 1 _ HPP.out).mono ?_; rintro e w' ⟨uq, rfl, hown, xq, rfl⟩
          go_wp2
          exact HK.out _ _ ⟨_, _, _, _, _, _, _, _, _, _, _, _, _, _, _, _, _, _, rfl, hJ.spec 11 (by decide) _ (hJ.part.step11 (show 11 < 18 by decide) hun hown)⟩
        · obtain rfl := Option.some.inj ho
          have d6 : x6 = .int .i64 0 := hJ.val 6 (show 6 < 18 by decide) (by decide) (getD_upJ (hd ⟨6, .data⟩ (by simp) (by rfl)))
          have d8 : x8 = .int .i64 0 := hJ.val 8 (show 8 < 18 by decide) (by decide) (getD_upJ (hd ⟨8, .data⟩ (by simp) (by rfl)))
          subst d6 d8
          have h11 := (getD_upJ (hd ⟨11, .data⟩ (by simp) (by rfl)))
          obtain ⟨au, cu, hx1, -, -, -⟩ := own_shape (hJ.part.i11 h11)
          have e1' : x11 = .slice au 2 cu := hx1
          have HST := Lib.hid (hJ.part.step12 (show 12 < 18 by decide) hun h11 rfl)
          clear hx1 h11
          subst e1'
          refine wpOp_of_list (by rfl) ?_
          go_wp2
          exact HK.out _ _ ⟨_, _, _, _, _, _, _, _, _, _, _, _, _, _, _, _, _, _, rfl, hJ.spec 12 (by decide) _ (HST.out)⟩
        · obtain rfl := Option.some.inj ho
          have h12 := (getD_upJ (hd ⟨12, .data⟩ (by simp) (by rfl)))
          obtain ⟨h11, e12⟩ := hJ.part.i12 h12
          obtain ⟨au, cu, hx1, -, -, -⟩ := own_shape (hJ.part.i11 h11)
          have e1' : x11 = .slice au 2 cu := hx1
          have e2' : x12 = .agg #[.int .i64 0, .int .i64 0, x11] := e12
          have HST := Lib.hid (hJ.part.step13 (show 13 < 18 by decide) hun h12 rfl rfl)
          clear e12 hx1 h11 h12
          subst e2' e1'
          refine wpOp_of_list (by rfl) ?_
          go_wp2
          exact HK.out _ _ ⟨_, _, _, _, _, _, _, _, _, _, _, _, _, _, _, _, _, _, rfl, hJ.spec 13 (by decide) _ (HST.out)⟩
        · obtain rfl := Option.some.inj ho
          have h13 := (getD_upJ (hd ⟨13, .data⟩ (by simp) (by rfl)))
          have h4 := (getD_upJ (hd ⟨4, .data⟩ (by simp) (by rfl)))
          have d4 : x4 = .slice ao j co := hJ.part.i4 h4
          obtain ⟨h12, gl, hl1, hl2, hl3⟩ := hJ.part.i13 h13
          obtain ⟨h11, e12⟩ := hJ.part.i12 h12
          have hl4 : x13 = .slice (some ⟨gl, 0, none⟩) 1 1 := hl1
          obtain ⟨au, cu, hx1, -, -, -⟩ := own_shape (hJ.part.i11 h11)
          have e1' : x11 = .slice au 2 cu := hx1
          have hrow := hJ.part.row0 hun
          have hl5 : Blk W gl #[.int .i64 0, .int .i64 0, x11] 140 := hl3
          have HSA := Lib.hid (fun (W' : World) (uq : Value) hu hg => hJ.part.step14 (W' := W') (show 14 < 18 by decide) hun h13 h4 (u := uq) hu hg)
          have hsz := hJ.part.size
          clear hl3 hl1 hx1 e12 h13 h4 h12 h11
          subst d4 hl4 e1'
          refine wpOp_of_list (by rfl) ?_
          refine app_own_w2 rfl _ _ 110 rfl 140 (.agg #[.int .i64 0, .int .i64 0, .slice none 0 0]) 3 40 Tryz.underlying110 info_bar rfl (by decide) w.heap.size (.slice ao j co) j _ _ rfl hrow gl 1 1 [.int .i64 0, .int .i64 0, .slice au 2 cu] rfl (by rfl) hl5 (by simp [Value.oneCell']) (by omega) (by decide) (by have := HSZ.out; omega) ?_
          intro u' w' hown hg hw
          clear hsz
          go_wp2
          exact HK.out _ _ ⟨_, _, _, _, _, _, _, _, _, _, _, _, _, _, _, _, _, _, rfl, hJ.spec 14 (by decide) _ (HSA.out _ _ hown hg)⟩
        · obtain rfl := Option.some.inj ho
          have d0 : x0 = .pointer (some ⟨gS, 0, none⟩) := hJ.val 0 (show 0 < 18 by decide) (by decide) (getD_upJ (hd ⟨0, .data⟩ (by simp) (by rfl)))
          subst d0
          refine wpOp_of_list (by rfl) ?_
          go_wp2
          exact HK.out _ _ ⟨_, _, _, _, _, _, _, _, _, _, _, _, _, _, _, _, _, _, rfl, hJ.up HPART.out 15 (by decide) (show 15 < 18 by decide) rfl⟩
        · obtain rfl := Option.some.inj ho
          have d15 : x15 = .pointer (some ⟨gS, 0, none⟩) := hJ.val 15 (show 15 < 18 by decide) (by decide) (getD_upJ (hd ⟨15, .data⟩ (by simp) (by rfl)))
          subst d15
          refine wpOp_of_list (by rfl) ?_
          go_wp2
          exact HK.out _ _ ⟨_, _, _, _, _, _, _, _, _, _, _, _, _, _, _, _, _, _, rfl, hJ.up HPART.out 16 (by decide) (show 16 < 18 by decide) rfl⟩
        · obtain rfl := Option.some.inj ho
          have d16 : x16 = .pointer (some ⟨gS, 3, none⟩) := hJ.val 16 (show 16 < 18 by decide) (by decide) (getD_upJ (hd ⟨16, .data⟩ (by simp) (by rfl)))
          subst d16
          have h14 := (getD_upJ (hd ⟨14, .data⟩ (by simp) (by rfl)))
          have hb := hJ.part.blk0 hun
          have qf : W.frozen? ⟨gS, 3, none⟩ = false := hb.frozen 3
          have qg : W.cell? ⟨gS, 3, none⟩ = some (.slice ao j co) := (hb.cell 3).trans rfl
          obtain ⟨au, cu, hx1, -, -, -⟩ := own_shape (hJ.part.row1 h14)
          have e1' : x14 = .slice au (j + 1) cu := hx1
          have HST := Lib.hid (hJ.part.step17 (W' := W.setCell ⟨gS, 3, none⟩ x14) hun h14 rfl (fun k hk => Below.heap_setCell _ _ _ _ hk) (by simp [World.setCell]) ⟨rfl, rfl, rfl⟩ (hb.set 3 _))
          clear hb hx1 h14
          subst e1'
          refine wpOp_of_list (by rfl) ?_
          go_wp2
          exact HK.out _ _ ⟨_, _, _, _, _, _, _, _, _, _, _, _, _, _, _, _, _, _, rfl, hJ.spec0 17 (by decide) HST.out⟩
      · intro vs L W hlen hJ hall
        obtain ⟨x0, vs0, rfl, hlen0⟩ := len_cons hlen
        obtain ⟨x1, vs1, rfl, hlen1⟩ := len_cons hlen0
        obtain ⟨x2, vs2, rfl, hlen2⟩ := len_cons hlen1
        obtain ⟨x3, vs3, rfl, hlen3⟩ := len_cons hlen2
        obtain ⟨x4, vs4, rfl, hlen4⟩ := len_cons hlen3
        obtain ⟨x5, vs5, rfl, hlen5⟩ := len_cons hlen4
        obtain ⟨x6, vs6, rfl, hlen6⟩ := len_cons hlen5
        obtain ⟨x7, vs7, rfl, hlen7⟩ := len_cons hlen6
        obtain ⟨x8, vs8, rfl, hlen8⟩ := len_cons hlen7
        obtain ⟨x9, vs9, rfl, hlen9⟩ := len_cons hlen8
        obtain ⟨x10, vs10, rfl, hlen10⟩ := len_cons hlen9
        obtain ⟨x11, vs11, rfl, hlen11⟩ := len_cons hlen10
        obtain ⟨x12, vs12, rfl, hlen12⟩ := len_cons hlen11
        obtain ⟨x13, vs13, rfl, hlen13⟩ := len_cons hlen12
        obtain ⟨x14, vs14, rfl, hlen14⟩ := len_cons hlen13
        obtain ⟨x15, vs15, rfl, hlen15⟩ := len_cons hlen14
        obtain ⟨x16, vs16, rfl, hlen16⟩ := len_cons hlen15
        obtain ⟨x17, vs17, rfl, hlen17⟩ := len_cons hlen16
        obtain rfl := len_nil hlen17
        clear hlen hlen0 hlen1 hlen2 hlen3 hlen4 hlen5 hlen6 hlen7 hlen8 hlen9 hlen10 hlen11 hlen12 hlen13 hlen14 hlen15 hlen16 hlen17
        have d0 : x0 = .pointer (some ⟨gS, 0, none⟩) := hJ.val 0 (show 0 < 18 by decide) (by decide) (hall 0 (of_decide_eq_true (by kernel_rfl)))
        have d1 : x1 = .pointer (some ⟨gS, 0, none⟩) := hJ.val 1 (show 1 < 18 by decide) (by decide) (hall 1 (of_decide_eq_true (by kernel_rfl)))
        have d2 : x2 = .pointer (some ⟨gS, 0, none⟩) := hJ.val 2 (show 2 < 18 by decide) (by decide) (hall 2 (of_decide_eq_true (by kernel_rfl)))
        have d3 : x3 = .pointer (some ⟨gS, 3, none⟩) := hJ.val 3 (show 3 < 18 by decide) (by decide) (hall 3 (of_decide_eq_true (by kernel_rfl)))
        have d5 : x5 = .pointer (some ⟨gb, 0, none⟩) := hJ.val 5 (show 5 < 18 by decide) (by decide) (hall 5 (of_decide_eq_true (by kernel_rfl)))
        have d6 : x6 = .int .i64 0 := hJ.val 6 (show 6 < 18 by decide) (by decide) (hall 6 (of_decide_eq_true (by kernel_rfl)))
        have d7 : x7 = .pointer (some ⟨gb, 1, none⟩) := hJ.val 7 (show 7 < 18 by decide) (by decide) (hall 7 (of_decide_eq_true (by kernel_rfl)))
        have d8 : x8 = .int .i64 0 := hJ.val 8 (show 8 < 18 by decide) (by decide) (hall 8 (of_decide_eq_true (by kernel_rfl)))
        have d9 : x9 = .pointer (some ⟨gb, 2, none⟩) := hJ.val 9 (show 9 < 18 by decide) (by decide) (hall 9 (of_decide_eq_true (by kernel_rfl)))
        have d10 : x10 = .slice (some ⟨gP, 0, none⟩) 2 2 := hJ.val 10 (show 10 < 18 by decide) (by decide) (hall 10 (of_decide_eq_true (by kernel_rfl)))
        have d15 : x15 = .pointer (some ⟨gS, 0, none⟩) := hJ.val 15 (show 15 < 18 by decide) (by decide) (hall 15 (of_decide_eq_true (by kernel_rfl)))
        have d16 : x16 = .pointer (some ⟨gS, 3, none⟩) := hJ.val 16 (show 16 < 18 by decide) (by decide) (hall 16 (of_decide_eq_true (by kernel_rfl)))
        subst d0 d1 d2 d3 d5 d6 d7 d8 d9 d10 d15 d16
        have HN := Lib.hid (grown_next HS0.out HG.out HS.out HR.out hlu HU.out HB2.out (fun _ => rfl) hJ.part (hall 17 (of_decide_eq_true (by kernel_rfl))) (hall 14 (of_decide_eq_true (by kernel_rfl))) (hall 11 (of_decide_eq_true (by kernel_rfl))))
        clear hJ hall
        simp only [putAll_cons, putAll_nil, put_some, put_none, List.setIfInBounds_toArray, List.set_cons_succ, List.set_cons_zero]
        go_wp2
        go_roundw
        case rel => exact ⟨j + 1, by have := HLT.out; omega, by go_num, HN.out⟩
        case measure => have := HLT.out; simp [intOf]; omega
    · obtain rfl : j = 2 := by omega
      clear hlt
      go_wp2
      go_end0
      exact ⟨⟨_, rfl⟩, hg, old, us, hlu, hS, hR, hU⟩
end Go.Proofs.YtmhhohancconaaaGreat

namespace Go.Proofs.YtmhhohancconaaaGreat
open Go Go.RowKit
set_option maxRecDepth 20000

theorem run_mk2 (w : World) : (Instr.makeSlice 49 (.int .i64 2) (.int .i64 2)).run Tryz.prog w = .ok (.slice (some ⟨w.heap.size, 0, none⟩) 2 2) (w.alloc (.cells #[.int .i64 0, .int .i64 0] 3)) := by
  obtain ⟨i0, hi, hz0, hz1, hz2⟩ := info_parts info_int
  have := run_makeSlice (P := Tryz.prog) w 49 3 i0 _ Tryz.underlying49 hi hz0 .i64 .i64 (2 : Int) (2 : Int) (by omega) (Int.le_refl _) (by rw [hz1]; decide) (by rw [hz2]; decide) (by omega)
  rw [hz1] at this
  have hm : madeCells (Value.int .i64 0).cells 2 = #[.int .i64 0, .int .i64 0] := by
    apply Array.ext
    · simp [madeCells]
    · intro i h1 h2
      have : i = 0 ∨ i = 1 := by have : i < 2 := by simpa using h2
                                 omega
      rcases this with rfl | rfl <;> simp [madeCells, Value.cells]
  rw [show ((2 : Int).toNat * 1) = 2 from rfl, hm] at this
  exact this

/-- But for some blocks, what was there is as it was. -/
structure Kp (w : World) (S : List Nat) (W : World) : Prop where
  os : W.os = w.os
  tape : W.tape = w.tape
  output : W.output = w.output
  size : w.heap.size ≤ W.heap.size
  block : ∀ k, k < w.heap.size → k ∉ S → W.heap[k]? = w.heap[k]?
theorem Kp.refl (w : World) (S : List Nat) : Kp w S w := ⟨rfl, rfl, rfl, Nat.le_refl _, fun _ _ _ => rfl⟩
theorem Kp.grown {w W W' : World} {S : List Nat} (h : Kp w S W) {row : Option Nat} (hg : W.grownBy W' row) (hr : ∀ k, row = some k → k ∈ S ∨ w.heap.size ≤ k) : Kp w S W' :=
  ⟨hg.os.trans h.os, hg.tape.trans h.tape, hg.output.trans h.output, Nat.le_trans h.size hg.size, fun k k1 k2 => by
    rw [hg.block k (Nat.lt_of_lt_of_le k1 h.size) (fun e => by rcases hr k e.symm with q | q; exact k2 q; omega)]
    exact h.block k k1 k2⟩
theorem Kp.below {w W W' : World} {S : List Nat} (h : Kp w S W) (hb : Below W.heap.size W W') : Kp w S W' :=
  h.grown (row := none) ⟨hb.os, hb.tape, hb.output, hb.size, fun k k1 _ => hb.block k k1⟩ (fun k e => by cases e)
theorem Kp.set {w W : World} {S : List Nat} (h : Kp w S W) {a : Addr} (ha : a.block ∈ S) (u : Value) : Kp w S (W.setCell a u) :=
  ⟨h.os, h.tape, h.output, by simpa [World.setCell] using h.size, fun k k1 k2 => by
    rw [Below.heap_setCell _ _ _ _ (fun e => k2 (by rw [e]; exact ha))]
    exact h.block k k1 k2⟩
theorem set_back {cs : Array Value} {i : Nat} {v x : Value} (h : cs[i]? = some v) : (cs.setIfInBounds i x).setIfInBounds i v = cs := by
  apply Array.ext_getElem?
  intro k
  rw [Array.getElem?_setIfInBounds, Array.getElem?_setIfInBounds]
  by_cases e : i = k
  · subst e
    rw [if_pos rfl, Array.size_setIfInBounds, if_pos (Array.getElem?_eq_some_iff.1 h).1, h]
  · rw [if_neg e, if_neg e]
theorem set_self {cs : Array Value} {i : Nat} {v x : Value} (h : cs[i]? = some v) : (cs.setIfInBounds i x)[i]? = some x := by
  rw [Array.getElem?_setIfInBounds, if_pos rfl, if_pos (Array.getElem?_eq_some_iff.1 h).1]
theorem set_oth {cs : Array Value} {i k : Nat} {v : Option Value} {x : Value} (h : cs[k]? = v) (hne : i ≠ k) : (cs.setIfInBounds i x)[k]? = v := by
  rw [Array.getElem?_setIfInBounds, if_neg hne, h]
section
variable {w W W' : World} {go gA gB gS g gO c4 : Nat} {cs : Array Value} {a b p1 p2 q1 q2 : Int} {best : Value}
theorem Op2.neAB (h : Op2 W go cs gA gB a b p1 p2 q1 q2) : go ≠ gA ∧ go ≠ gB := ⟨blk_ne h.blk h.pa (by decide), blk_ne h.blk h.pb (by decide)⟩
theorem Op2.setLA (h : Op2 W go cs gA gB a b p1 p2 q1 q2) (a' : Int) : Op2 (W.setCell ⟨go, 1, none⟩ (.int .i64 a')) go (cs.setIfInBounds 1 (.int .i64 a')) gA gB a' b p1 p2 q1 q2 := by
  obtain ⟨n1, n2⟩ := h.neAB
  exact ⟨h.blk.set 1 _, set_oth h.c0 (by decide), set_self h.c1, set_oth h.c2 (by decide), set_oth h.c3 (by decide), set_oth h.c4 (by decide), set_oth h.c5 (by decide), h.pa.other (Ne.symm n1) _, h.pb.other (Ne.symm n2) _, h.ne⟩
theorem Op2.setLB (h : Op2 W go cs gA gB a b p1 p2 q1 q2) (b' : Int) : Op2 (W.setCell ⟨go, 4, none⟩ (.int .i64 b')) go (cs.setIfInBounds 4 (.int .i64 b')) gA gB a b' p1 p2 q1 q2 := by
  obtain ⟨n1, n2⟩ := h.neAB
  exact ⟨h.blk.set 4 _, set_oth h.c0 (by decide), set_oth h.c1 (by decide), set_oth h.c2 (by decide), set_oth h.c3 (by decide), set_self h.c4, set_oth h.c5 (by decide), h.pa.other (Ne.symm n1) _, h.pb.other (Ne.symm n2) _, h.ne⟩
theorem Op2.setPA (h : Op2 W go cs gA gB a b p1 p2 q1 q2) (p' : Int) : Op2 (W.setCell ⟨gA, 1, none⟩ (.int .i64 p')) go cs gA gB a b p1 p' q1 q2 := by
  obtain ⟨n1, n2⟩ := h.neAB
  exact ⟨h.blk.other n1 _, h.c0, h.c1, h.c2, h.c3, h.c4, h.c5, h.pa.set 1 _, h.pb.other (Ne.symm h.ne) _, h.ne⟩
theorem Op2.setPB (h : Op2 W go cs gA gB a b p1 p2 q1 q2) (q' : Int) : Op2 (W.setCell ⟨gB, 1, none⟩ (.int .i64 q')) go cs gA gB a b p1 p2 q1 q' := by
  obtain ⟨n1, n2⟩ := h.neAB
  exact ⟨h.blk.other n2 _, h.c0, h.c1, h.c2, h.c3, h.c4, h.c5, h.pa.other h.ne _, h.pb.set 1 _, h.ne⟩
theorem Op2.below (h : Op2 W go cs gA gB a b p1 p2 q1 q2) (hb : Below W.heap.size W W') : Op2 W' go cs gA gB a b p1 p2 q1 q2 := h.same fun k _ hl => hb.block k hl
/-- The search's blocks lie apart from the open lengths. -/
theorem SrchAt.apart (h : SrchAt w gS g gO c4 best) (h2 : Op2 w go cs gA gB a b p1 p2 q1 q2) : g ∉ [gS, go, gA, gB] ∧ gO ∉ [gS, go, gA, gB] := by
  have e0 := h.o2
  constructor
  · simp only [List.mem_cons, List.not_mem_nil, or_false, not_or]
    exact ⟨h.neP, blk_ne h.pcs h2.blk (by decide), blk_ne h.pcs h2.pa (by decide), blk_ne h.pcs h2.pb (by decide)⟩
  · simp only [List.mem_cons, List.not_mem_nil, or_false, not_or]
    refine ⟨h.neO, fun e => ?_, fun e => ?_, fun e => ?_⟩
    · rw [e, h2.blk.cell 2, h2.c2] at e0; cases e0
    · rw [e, h2.pa.cell 2] at e0; simp at e0
    · rw [e, h2.pb.cell 2] at e0; simp at e0
theorem SrchAt.of_kp {S : List Nat} (h : SrchAt w gS g gO c4 best) (hk : Kp w S W) (hS : g ∉ S ∧ gO ∉ S) {b' : Value} (hb : Blk W gS #[.int .i64 100, .slice (some ⟨g, 0, none⟩) 2 2, .slice (some ⟨gO, 0, none⟩) 4 c4, b'] 112) : SrchAt W gS g gO c4 b' := by
  have hO := hk.block gO (World.block_lt_of_cell? w _ h.o0) hS.2
  have hc : ∀ (i : Nat) (v : Value), w.cell? ⟨gO, i, none⟩ = some v → W.cell? ⟨gO, i, none⟩ = some v := fun i v e => by rw [World.cell?_of_block (w := w) hO]; exact e
  exact ⟨hb, Blk.of_block h.pcs (hk.block g (Blk.lt h.pcs) hS.1), hc 0 _ h.o0, hc 1 _ h.o1, hc 2 _ h.o2, hc 3 _ h.o3⟩
end
/-- The best has two lengths, all used up. -/
def BRow (w W : World) (best : Value) : Prop := ∃ us : List Value, us.length = 2 ∧ W.ownsRow w.heap.size 140 3 best 2 (flatB us) ∧ ∀ u ∈ us, W.ownsRow w.heap.size 3 1 u 2 [.int .i64 1, .int .i64 1]
theorem BRow.move {w W W' : World} {best : Value} (h : BRow w W best) (hh : ∀ k, w.heap.size ≤ k → k < W.heap.size → W'.heap[k]? = W.heap[k]?) : BRow w W' best := by
  obtain ⟨us, h1, h2, h3⟩ := h
  exact ⟨us, h1, own_of_heap h2 fun b hb => hh b (h2.lt b hb).1 (h2.lt b hb).2, fun u hu => own_of_heap (h3 u hu) fun b hb => hh b ((h3 u hu).lt b hb).1 ((h3 u hu).lt b hb).2⟩
theorem BRow.mono {w v W : World} {best : Value} (h : BRow w W best) (hs : v.heap.size ≤ w.heap.size) : BRow v W best := by
  obtain ⟨us, h1, h2, h3⟩ := h
  exact ⟨us, h1, own_mono h2 hs, fun u hu => own_mono (h3 u hu) hs⟩
theorem BRow.shape {w W : World} {best : Value} (h : BRow w W best) : ∃ bb cb, best = .slice (some ⟨bb, 0, none⟩) 2 cb := by
  obtain ⟨us, h1, h2, h3⟩ := h
  obtain ⟨a, c, rfl, -, -, hc⟩ := own_shape h2
  obtain ⟨b, rfl, -⟩ := hc (by decide)
  exact ⟨b, c, rfl⟩
/-- While a visit with two open lengths goes on: r tells whether a best is there. -/
structure VSt (w : World) (gS g gO c4 go : Nat) (cs : Array Value) (gA gB : Nat) (a b p1 p2 q1 q2 : Int) (gM n : Nat) (S : Int → Bool) (r : Bool) (best : Value) (W : World) : Prop where
  kp : Kp w [gS, go, gA, gB] W
  srch : SrchAt W gS g gO c4 best
  op : Op2 W go cs gA gB a b p1 p2 q1 q2
  map : SeenM W gM n S
  row : r = true → BRow w W best
section
variable {w W W' : World} {go gA gB gS g gO c4 gM n : Nat} {cs : Array Value} {a b p1 p2 q1 q2 : Int} {best : Value} {S : Int → Bool} {r : Bool}
/-- A store into one of the open lengths' blocks. -/
theorem VSt.store (h : VSt w gS g gO c4 go cs gA gB a b p1 p2 q1 q2 gM n S r best W) (hs : SrchAt w gS g gO c4 (.slice none 0 0)) {cs0 : Array Value} {a0 b0 x1 x2 y1 y2 : Int} (ho : Op2 w go cs0 gA gB a0 b0 x1 x2 y1 y2) (hM : w.heap.size ≤ gM) {ad : Addr} {u : Value} {cs' : Array Value} {a' b' p1' p2' q1' q2' : Int} (had : ad.block = go ∨ ad.block = gA ∨ ad.block = gB) (hop : Op2 (W.setCell ad u) go cs' gA gB a' b' p1' p2' q1' q2') :
    VSt w gS g gO c4 go cs' gA gB a' b' p1' p2' q1' q2' gM n S r best (W.setCell ad u) := by
  have hS := hs.apart ho
  obtain ⟨n1, n2, n3⟩ := ho.neS hs
  have hlt : ad.block < w.heap.size := by
    rcases had with e | e | e
    · rw [e]; exact ho.blk.lt
    · rw [e]; exact ho.pa.lt
    · rw [e]; exact ho.pb.lt
  have hneS : gS ≠ ad.block := by
    rcases had with e | e | e
    · rw [e]; exact Ne.symm n1
    · rw [e]; exact Ne.symm n2
    · rw [e]; exact Ne.symm n3
  have hk := h.kp.set (a := ad) (by simp only [List.mem_cons, List.not_mem_nil, or_false]; exact .inr had) u
  exact ⟨hk, hs.of_kp hk hS (h.srch.blk.other hneS _), hop, h.map.same (Below.heap_setCell _ _ _ _ (by omega)), fun e => (h.row e).move fun k k1 _ => Below.heap_setCell _ _ _ _ (by omega)⟩
theorem VSt.below (h : VSt w gS g gO c4 go cs gA gB a b p1 p2 q1 q2 gM n S r best W) (hb : Below W.heap.size W W') : VSt w gS g gO c4 go cs gA gB a b p1 p2 q1 q2 gM n S r best W' :=
  ⟨h.kp.below hb, h.srch.below hb, h.op.below hb, h.map.below hb, fun e => (h.row e).move fun k _ k2 => hb.block k k2⟩
/-- A new entry of the map. -/
theorem VSt.put (h : VSt w gS g gO c4 go cs gA gB a b p1 p2 q1 q2 gM n S r best W) (hs : SrchAt w gS g gO c4 (.slice none 0 0)) {cs0 : Array Value} {a0 b0 x1 x2 y1 y2 : Int} (ho : Op2 w go cs0 gA gB a0 b0 x1 x2 y1 y2) (hM : w.heap.size ≤ gM) (hg : W.grownBy W' (some gM)) (hr : r = false) {S' : Int → Bool} {n' : Nat} (hm : SeenM W' gM n' S') :
    VSt w gS g gO c4 go cs gA gB a b p1 p2 q1 q2 gM n' S' r best W' := by
  have hk := h.kp.grown hg (fun k e => .inr (by cases e; exact hM))
  have hl : ∀ k, k < w.heap.size → W'.heap[k]? = W.heap[k]? := fun k k1 => hg.block k (Nat.lt_of_lt_of_le k1 h.kp.size) (fun e => by cases e; omega)
  refine ⟨hk, hs.of_kp hk (hs.apart ho) (h.srch.blk.of_block (hl _ hs.blk.lt)), h.op.same (fun k hk2 _ => hl k ?_), hm, fun e => by rw [hr] at e; cases e⟩
  rcases hk2 with rfl | rfl | rfl
  · exact ho.blk.lt
  · exact ho.pa.lt
  · exact ho.pb.lt
/-- The visit one deeper. -/
theorem VSt.call (h : VSt w gS g gO c4 go cs gA gB a b p1 p2 q1 q2 gM n S r best W) (hs : SrchAt w gS g gO c4 (.slice none 0 0)) {cs0 : Array Value} {a0 b0 x1 x2 y1 y2 : Int} (_ho : Op2 w go cs0 gA gB a0 b0 x1 x2 y1 y2) (hM : w.heap.size ≤ gM) (hB : BestK W gS g gO c4 2 W') :
    ∃ bb cb, VSt w gS g gO c4 go cs gA gB a b p1 p2 q1 q2 gM n S true (.slice (some ⟨bb, 0, none⟩) 2 cb) W' := by
  obtain ⟨hg, old, us, h1, h2, h3, h4⟩ := hB
  have hrow : BRow w W' old := BRow.mono ⟨us, h1, h3, h4⟩ h.kp.size
  obtain ⟨bb, cb, rfl⟩ := hrow.shape
  have hk := h.kp.grown hg (fun k e => .inl (by cases e; simp))
  have hl : ∀ k, k < W.heap.size → k ≠ gS → W'.heap[k]? = W.heap[k]? := fun k k1 k2 => hg.block k k1 (fun e => by cases e; exact k2 rfl)
  have hgM : gM ≠ gS := fun e => by have := hs.blk.lt; omega
  exact ⟨bb, cb, hk, h2, h.op.grown h.srch hg, h.map.same (hl gM h.map.lt hgM), fun _ => hrow⟩
/-- At the end all is as it was, but for the search's block. -/
theorem VSt.fin (h : VSt w gS g gO c4 go cs gA gB a b p1 p2 q1 q2 gM n S true best W) (ho : Op2 w go cs gA gB a b p1 p2 q1 q2) : BestK w gS g gO c4 2 W := by
  obtain ⟨us, h1, h2, h3⟩ := h.row rfl
  refine ⟨⟨h.kp.os, h.kp.tape, h.kp.output, h.kp.size, fun k k1 k2 => ?_⟩, best, us, h1, h.srch, h2, h3⟩
  by_cases e1 : k = go
  · subst e1; exact h.op.blk.trans ho.blk.symm
  by_cases e2 : k = gA
  · subst e2; exact h.op.pa.trans ho.pa.symm
  by_cases e3 : k = gB
  · subst e3; exact h.op.pb.trans ho.pb.symm
  refine h.kp.block k k1 ?_
  simp only [List.mem_cons, List.not_mem_nil, or_false, not_or]
  exact ⟨fun e => k2 (by rw [e]), e1, e2, e3⟩
end
/-- An append to a slice without room, as one step of a region that draws its order. -/
theorem step_app_clip {P : Program} {ops : Array Oper} {o : Oper} {a : Act} {K : Act → World → Prop} {Q : Exit → Act → World → Prop} {E : Prop} (hgd : o.guard = none) (s x : Operand) (t : TypeId)
    (ho : o.op = .call { callee := .builtin .append, args := #[s, x], argTypes := #[t, t] })
    (e : TypeId) (z : Value) (size bytes : Nat) (ht : P.underlying t = some (.slice e)) (hi : (P.info? e).map (fun i => (i.zero, i.size, i.bytes)) = some (some z, size, bytes)) (hzs : z.cells.size = size)
    (w : World) (b n : Nat) (xs : List Value) (hs : a.eval s = .slice (some ⟨b, 0, none⟩) n n) (hxl : xs.length = n * size) (hc : ∀ j u, xs[j]? = some u → w.cell? ((⟨b, 0, none⟩ : Addr).add j) = some u)
    (g m c : Nat) (news : List Value) (hx : a.eval x = .slice (some ⟨g, 0, none⟩) m c) (hl : news.length = m * size) (hnews : ∀ j u, news[j]? = some u → w.cell? ((⟨g, 0, none⟩ : Addr).add j) = some u) (hm : 0 < m)
    (hroom : (n + m) * bytes ≤ 140737488355328) (hby : 0 < bytes)
    (h : ∀ v' y, (ext w y).ownsRow w.heap.size e size v' (n + m) (xs ++ news) → K (a.put o.dst v') (ext w y)) : if Region.wanted o (yielded ops a.tmps) = true then Oper.wp P o a w K Q else E := by
  have key : ∃ v' y, (Builtin.append_ #[t, t] o.type #[.slice (some ⟨b, 0, none⟩) n n, .slice (some ⟨g, 0, none⟩) m c]).run P w = .ok v' (ext w y) ∧ (ext w y).ownsRow w.heap.size e size v' (n + m) (xs ++ news) := by
    obtain ⟨i, hi0, hz, h1, h2⟩ := info_parts hi
    subst h1 h2
    have h63 : n + m ≤ maxLen := by
      unfold maxLen
      have := Nat.le_mul_of_pos_right (n + m) hby
      omega
    have hr := run_append_grow (P := P) w t o.type e i z ht hi0 hz ⟨b, 0, none⟩ n n xs hxl hc ⟨g, 0, none⟩ m c news hl hnews (by omega) (by simp only [maxLen] at h63; omega) (growslice_fits (by omega) hroom)
    have hge := grownCap_ge w (n + m) n e
    have hcm := grownCap_le_maxLen w (n + m) n e h63
    have hlen : (xs ++ news).length = (n + m) * i.size := by rw [List.length_append, hxl, hl, Nat.add_mul]
    generalize hK : grownCap w (n + m) n e = K at *
    obtain ⟨y, hy⟩ := ext_of (w := w) (w' := w.drew.alloc (.cells (xs.toArray ++ news.toArray ++ Builtin.zeroCells z.cells (K - (n + m))) e)) (grow_alloc _ (Below.refl w.heap.size w).drew)
    refine ⟨_, y, by rw [← hy]; exact hr, ?_⟩
    rw [← hy]
    refine ⟨hlen, .inr ⟨w.heap.size, K, _, rfl, Nat.le_refl _, heap_alloc_new w.drew _, hge, hcm, ?_, ?_⟩⟩
    · rw [Array.size_append, Array.size_append, List.size_toArray, List.size_toArray, size_zeroCells, hzs, hxl, hl, ← Nat.add_mul, ← Nat.add_mul]
      congr 1
      omega
    · have e1 : (xs.toArray ++ news.toArray ++ Builtin.zeroCells z.cells (K - (n + m))).toList = (xs ++ news) ++ (Builtin.zeroCells z.cells (K - (n + m))).toList := by simp
      rw [e1, ← hlen]
      exact List.take_left
  obtain ⟨v', y, hr, hown⟩ := key
  rw [if_pos (by simp [Region.wanted, hgd])]
  unfold Oper.wp execOp
  simp only [ho, resolve, invoke, builtin, Sem.run_bind, Sem.run_pure, Result.andThen_ok, List.map_toArray, List.map_cons, List.map_nil, hs, hx, hr]
  exact h v' y hown
/-- A row of one's own with its block. -/
theorem own_blk {W : World} {base s n : Nat} {e : TypeId} {v : Value} {xs : List Value} (h : W.ownsRow base e s v n xs) (hn : 0 < n) : ∃ g' cap cur, v = .slice (some ⟨g', 0, none⟩) n cap ∧ base ≤ g' ∧ Blk W g' cur e ∧ n ≤ cap ∧ cap ≤ 9223372036854775807 ∧ ∀ (j : Nat) (u : Value), xs[j]? = some u → cur[j]? = some u := by
  rcases h.2 with ⟨rfl, h0⟩ | ⟨g', cap, cur, rfl, h1, h2, h3, h4, h5, h6⟩
  · omega
  · refine ⟨g', cap, cur, rfl, h1, h2, h3, by unfold maxLen at h4; exact h4, fun j u hj => ?_⟩
    rw [← h6] at hj
    rw [← Array.getElem?_toList]
    rw [List.getElem?_take] at hj
    split at hj
    · exact hj
    · cases hj
theorem blk_cells {W : World} {go : Nat} {cs : Array Value} {t : TypeId} (h : Blk W go cs t) {xs : List Value} (hx : ∀ (j : Nat) (u : Value), xs[j]? = some u → cs[j]? = some u) : ∀ (j : Nat) (u : Value), xs[j]? = some u → W.cell? ((⟨go, 0, none⟩ : Addr).add j) = some u := by
  intro j u hj
  have e : (⟨go, 0, none⟩ : Addr).add j = ⟨go, j, none⟩ := by
    simp only [Addr.add, Nat.zero_add]; split
    · rename_i h; rw [h]
    · rfl
  rw [e, h.cell]
  exact hx j u hj
end Go.Proofs.YtmhhohancconaaaGreat

