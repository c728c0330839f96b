/- Two appends to rows of different elements, and the two stores of the new rows into one struct, in one drawn region: what stands while it runs. -/
import Derived.Test.YtmhhohancconaaaGreatDApp
namespace Go.Proofs.YtmhhohancconaaaGreat
open Go Go.RowKit
set_option maxRecDepth 20000

def Rw.st (r : Rw) (L : Array Bool) (vs : List Value) : Value := if L.getD r.kS true = true then vs.getD r.kA undef else r.a
structure RxAt (T : TypeId) (sz base : Nat) (W1 : World) (r : Rw) (L : Array Bool) (vs : List Value) (W : World) : Prop where
  load : L.getD r.kL true = true → vs.getD r.kL undef = r.a
  oL : L.getD r.kA true = true → L.getD r.kL true = true
  oS : L.getD r.kS true = true → L.getD r.kA true = true
  lit : L.getD r.kB true = true → ∃ g, vs.getD r.kB undef = .slice (some ⟨g, 0, none⟩) 1 1 ∧ W1.heap.size ≤ g ∧ Blk W g r.news.toArray T
  row0 : L.getD r.kA true = false → W.ownsRow base T sz r.a r.n r.xs
  row1 : L.getD r.kA true = true → W.ownsRow base T sz (vs.getD r.kA undef) (r.n + 1) (r.xs ++ r.news)
  lt : ∀ b, r.a.ownBlock = some b → b < W1.heap.size
section
variable {T T' TB : TypeId} {sz sz' base G : Nat} {W1 W W' : World} {r r' : Rw} {L L' : Array Bool} {vs vs' : List Value} {cc : Value → Value → Array Value}
theorem RxAt.row (h : RxAt T sz base W1 r L vs W) : ∃ n xs, W.ownsRow base T sz (r.cur L vs) n xs := by
  unfold Rw.cur
  cases e : L.getD r.kA true
  · exact ⟨_, _, h.row0 e⟩
  · exact ⟨_, _, h.row1 e⟩
theorem RxAt.move (h : RxAt T sz base W1 r L vs W) (hk : ∀ k ∈ r.ks, L.getD k true = L'.getD k true ∧ vs.getD k undef = vs'.getD k undef)
    (hrow : ∀ n xs, W.ownsRow base T sz (r.cur L vs) n xs → W'.ownsRow base T sz (r.cur L vs) n xs) (hlit : ∀ g cs, W1.heap.size ≤ g → Blk W g cs T → Blk W' g cs T) : RxAt T sz base W1 r L' vs' W' := by
  obtain ⟨l1, l2⟩ := hk r.kL (by simp [Rw.ks])
  obtain ⟨b1, b2⟩ := hk r.kB (by simp [Rw.ks])
  obtain ⟨a1, a2⟩ := hk r.kA (by simp [Rw.ks])
  obtain ⟨s1, -⟩ := hk r.kS (by simp [Rw.ks])
  refine ⟨fun e => ?_, fun e => ?_, fun e => ?_, fun e => ?_, fun e => ?_, fun e => ?_, h.lt⟩
  · rw [← l2]; exact h.load (by rwa [l1])
  · rw [← l1]; exact h.oL (by rwa [a1])
  · rw [← a1]; exact h.oS (by rwa [s1])
  · obtain ⟨g, h1, h2, h3⟩ := h.lit (by rwa [b1])
    exact ⟨g, by rw [← b2]; exact h1, h2, hlit g _ h2 h3⟩
  · rw [← a1] at e
    have := hrow r.n r.xs
    unfold Rw.cur at this
    rw [if_neg (by rw [e]; decide)] at this
    exact this (h.row0 e)
  · rw [← a1] at e
    have := hrow (r.n + 1) (r.xs ++ r.news)
    unfold Rw.cur at this
    rw [if_pos e] at this
    rw [← a2]
    exact this (h.row1 e)
structure DAq (T T' TB : TypeId) (sz sz' base : Nat) (W1 : World) (G : Nat) (cc : Value → Value → Array Value) (r r' : Rw) (L : Array Bool) (vs : List Value) (W : World) : Prop where
  r1 : RxAt T sz base W1 r L vs W
  r2 : RxAt T' sz' base W1 r' L vs W
  blk : Blk W G (cc (r.st L vs) (r'.st L vs)) TB
  os : W.os = W1.os
  tape : W.tape = W1.tape
  output : W.output = W1.output
  size : W1.heap.size ≤ W.heap.size
  frame : ∀ k, k < W1.heap.size → k ≠ G → r.a.ownBlock ≠ some k → r'.a.ownBlock ≠ some k → W.heap[k]? = W1.heap[k]?
  ltG : G < W1.heap.size
theorem DAq.swap (h : DAq T T' TB sz sz' base W1 G cc r r' L vs W) : DAq T' T TB sz' sz base W1 G (fun b a => cc a b) r' r L vs W :=
  ⟨h.r2, h.r1, h.blk, h.os, h.tape, h.output, h.size, fun k h1 h2 h3 h4 => h.frame k h1 h2 h4 h3, h.ltG⟩
theorem DAq.unswap (h : DAq T' T TB sz' sz base W1 G (fun b a => cc a b) r' r L vs W) : DAq T T' TB sz sz' base W1 G cc r r' L vs W :=
  ⟨h.r2, h.r1, h.blk, h.os, h.tape, h.output, h.size, fun k h1 h2 h3 h4 => h.frame k h1 h2 h4 h3, h.ltG⟩
theorem st_same (hk : ∀ k ∈ r.ks, L.getD k true = L'.getD k true ∧ vs.getD k undef = vs'.getD k undef) : r.st L' vs' = r.st L vs := by
  obtain ⟨a1, a2⟩ := hk r.kA (by simp [Rw.ks])
  obtain ⟨s1, s2⟩ := hk r.kS (by simp [Rw.ks])
  unfold Rw.st
  rw [s1, a2]
theorem DAq.same (h : DAq T T' TB sz sz' base W1 G cc r r' L vs W) (hk : ∀ k ∈ r.ks ++ r'.ks, L.getD k true = L'.getD k true ∧ vs.getD k undef = vs'.getD k undef) : DAq T T' TB sz sz' base W1 G cc r r' L' vs' W := by
  have k1 : ∀ k ∈ r.ks, L.getD k true = L'.getD k true ∧ vs.getD k undef = vs'.getD k undef := fun k hm => hk k (List.mem_append_left _ hm)
  have k2 : ∀ k ∈ r'.ks, L.getD k true = L'.getD k true ∧ vs.getD k undef = vs'.getD k undef := fun k hm => hk k (List.mem_append_right _ hm)
  exact ⟨h.r1.move k1 (fun _ _ x => x) (fun _ _ _ x => x), h.r2.move k2 (fun _ _ x => x) (fun _ _ _ x => x), by rw [st_same k1, st_same k2]; exact h.blk, h.os, h.tape, h.output, h.size, h.frame, h.ltG⟩
theorem DAq.grows (h : DAq T T' TB sz sz' base W1 G cc r r' L vs W) (hb : Below W.heap.size W W') : DAq T T' TB sz sz' base W1 G cc r r' L vs W' := by
  have hg : W.grownBy W' none := ⟨hb.os, hb.tape, hb.output, hb.size, fun k hk _ => hb.block k hk⟩
  have kk : ∀ (r : Rw), ∀ k ∈ r.ks, L.getD k true = L.getD k true ∧ vs.getD k undef = vs.getD k undef := fun _ _ _ => ⟨rfl, rfl⟩
  refine ⟨h.r1.move (kk r) (fun _ _ x => x.kept hg (by cases (r.cur L vs).ownBlock <;> simp)) (fun _ _ _ x => x.below hb), h.r2.move (kk r') (fun _ _ x => x.kept hg (by cases (r'.cur L vs).ownBlock <;> simp)) (fun _ _ _ x => x.below hb), h.blk.below hb, hb.os.trans h.os, hb.tape.trans h.tape, hb.output.trans h.output, Nat.le_trans h.size hb.size, fun k h1 h2 h3 h4 => ?_, h.ltG⟩
  rw [hb.block k (Nat.lt_of_lt_of_le h1 h.size)]
  exact h.frame k h1 h2 h3 h4
theorem DAq.part : PartG (r.ks ++ r'.ks) (DAq T T' TB sz sz' base W1 G cc r r') := ⟨fun _ _ _ _ _ hk h => h.same hk, fun _ _ _ x h => h.grows (below_ext _ x)⟩
/-- The cell that the load reads. -/
theorem DAq.cell (h : DAq T T' TB sz sz' base W1 G cc r r' L vs W) (hun : L.getD r.kL true = false) {off : Nat} (hc : ∀ a b, (cc a b)[off]? = some a) : W.cell? ⟨G, off, none⟩ = some r.a := by
  have hS : L.getD r.kS true = false := by
    cases e : L.getD r.kS true
    · rfl
    · have := h.r1.oL (h.r1.oS e)
      rw [hun] at this; cases this
  rw [h.blk.cell, hc]
  unfold Rw.st
  rw [if_neg (by rw [hS]; decide)]
theorem DAq.stepL (h : DAq T T' TB sz sz' base W1 G cc r r' L vs W) (ok : r.ok r') (hi : r.kL < vs.length) {u : Value} (hu : u = r.a) : DAq T T' TB sz sz' base W1 G cc r r' (L.setIfInBounds r.kL true) (vs.set r.kL u) W := by
  obtain ⟨⟨n1, n2, n3, n4, n5, n6⟩, hx⟩ := ok
  have k2 := up_other (L := L) (vs := vs) (u := u) (hx r.kL (by simp [Rw.ks]))
  refine ⟨⟨fun _ => by rw [getD_set_self' hi, hu], fun _ => getD_self, fun e => ?_, fun e => ?_, fun e => ?_, fun e => ?_, h.r1.lt⟩, h.r2.move k2 (fun _ _ x => x) (fun _ _ _ x => x), ?_, h.os, h.tape, h.output, h.size, h.frame, h.ltG⟩
  · rw [getD_other n3] at e; rw [getD_other n2]; exact h.r1.oS e
  · rw [getD_other n1] at e; rw [getD_set_other n1]; exact h.r1.lit e
  · rw [getD_other n2] at e; exact h.r1.row0 e
  · rw [getD_other n2] at e; rw [getD_set_other n2]; exact h.r1.row1 e
  · rw [st_same k2]
    have : r.st (L.setIfInBounds r.kL true) (vs.set r.kL u) = r.st L vs := by
      unfold Rw.st
      rw [getD_other n3, getD_set_other n2]
    rw [this]
    exact h.blk
theorem DAq.stepB (h : DAq T T' TB sz sz' base W1 G cc r r' L vs W) (ok : r.ok r') (hi : r.kB < vs.length) {u : Value} (hu : u = .slice (some ⟨W.heap.size, 0, none⟩) 1 1) {cs : Array Value} (hcs : cs = r.news.toArray) : DAq T T' TB sz sz' base W1 G cc r r' (L.setIfInBounds r.kB true) (vs.set r.kB u) (W.alloc (.cells cs T)) := by
  subst hcs
  obtain ⟨⟨n1, n2, n3, n4, n5, n6⟩, hx⟩ := ok
  have h' := h.grows (grow_alloc (.cells r.news.toArray T) (Below.refl _ W))
  have k2 := up_other (L := L) (vs := vs) (u := u) (hx r.kB (by simp [Rw.ks]))
  refine ⟨⟨fun e => ?_, fun e => ?_, fun e => ?_, fun _ => ⟨W.heap.size, by rw [getD_set_self' hi, hu], h.size, Blk.new _ _ _⟩, fun e => ?_, fun e => ?_, h.r1.lt⟩, h'.r2.move k2 (fun _ _ x => x) (fun _ _ _ x => x), ?_, h'.os, h'.tape, h'.output, h'.size, h'.frame, h.ltG⟩
  · rw [getD_other (fun e => n1 e.symm)] at e; rw [getD_set_other (fun e => n1 e.symm)]; exact h.r1.load e
  · rw [getD_other n4] at e; rw [getD_other (fun e => n1 e.symm)]; exact h.r1.oL e
  · rw [getD_other n5] at e; rw [getD_other n4]; exact h.r1.oS e
  · rw [getD_other n4] at e; exact h'.r1.row0 e
  · rw [getD_other n4] at e; rw [getD_set_other n4]; exact h'.r1.row1 e
  · rw [st_same k2]
    have : r.st (L.setIfInBounds r.kB true) (vs.set r.kB u) = r.st L vs := by
      unfold Rw.st
      rw [getD_other n5, getD_set_other n4]
    rw [this]
    exact h'.blk
theorem DAq.stepA (h : DAq T T' TB sz sz' base W1 G cc r r' L vs W) (ok : r.ok r') (hi : r.kA < vs.length) (hT : TB ≠ T) (hTT : T' ≠ T) (hun : L.getD r.kA true = false) (hl : L.getD r.kL true = true) {u : Value}
    (hown : W'.ownsRow base T sz u (r.n + 1) (r.xs ++ r.news)) (hg : W.grownBy W' r.a.ownBlock) : DAq T T' TB sz sz' base W1 G cc r r' (L.setIfInBounds r.kA true) (vs.set r.kA u) W' := by
  obtain ⟨⟨n1, n2, n3, n4, n5, n6⟩, hx⟩ := ok
  have k2 := up_other (L := L) (vs := vs) (u := u) (hx r.kA (by simp [Rw.ks]))
  have hS : L.getD r.kS true = false := by
    cases e : L.getD r.kS true
    · rfl
    · have := h.r1.oS e
      rw [hun] at this; cases this
  obtain ⟨n', xs', hrow'⟩ := h.r2.row
  have hsep := own_ne hrow' (h.r1.row0 hun) hTT
  have hlit : ∀ (e : TypeId) g cs, W1.heap.size ≤ g → Blk W g cs e → Blk W' g cs e := fun e g cs hg1 hb => hb.grown hg (fun e => by have := h.r1.lt g e.symm; omega)
  refine ⟨⟨fun e => ?_, fun _ => ?_, fun _ => getD_self, fun e => ?_, fun e => ?_, fun _ => ?_, h.r1.lt⟩, h.r2.move k2 (fun _ _ x => x.kept hg hsep) (hlit T'), ?_, hg.os.trans h.os, hg.tape.trans h.tape, hg.output.trans h.output, Nat.le_trans h.size hg.size, fun k h1 h2 h3 h4 => ?_, h.ltG⟩
  · rw [getD_other (fun e => n2 e.symm)] at e; rw [getD_set_other (fun e => n2 e.symm)]; exact h.r1.load e
  · rw [getD_other (fun e => n2 e.symm)]; exact hl
  · rw [getD_other (fun e => n4 e.symm)] at e
    rw [getD_set_other (fun e => n4 e.symm)]
    obtain ⟨g, e1, e2, e3⟩ := h.r1.lit e
    exact ⟨g, e1, e2, hlit T g _ e2 e3⟩
  · rw [getD_self] at e; cases e
  · rw [getD_set_self' hi]; exact hown
  · rw [st_same k2]
    have : r.st (L.setIfInBounds r.kA true) (vs.set r.kA u) = r.st L vs := by
      unfold Rw.st
      rw [getD_other n6, hS, if_neg (by decide), if_neg (by decide)]
    rw [this]
    exact h.blk.grown hg (h.blk.ne_row (h.r1.row0 hun) hT)
  · rw [hg.block k (Nat.lt_of_lt_of_le h1 h.size) (fun e => h3 e.symm)]
    exact h.frame k h1 h2 h3 h4
theorem DAq.stepS (h : DAq T T' TB sz sz' base W1 G cc r r' L vs W) (ok : r.ok r') (hT : TB ≠ T) (hT' : TB ≠ T') {off : Nat} (hset : ∀ a b u, (cc a b).setIfInBounds off u = cc u b) (hun : L.getD r.kS true = false) (hl : L.getD r.kA true = true) {u : Value} (hu : vs.getD r.kA undef = u) (hW : W' = W.setCell ⟨G, off, none⟩ u) : DAq T T' TB sz sz' base W1 G cc r r' (L.setIfInBounds r.kS true) vs W' := by
  subst hW hu
  obtain ⟨⟨n1, n2, n3, n4, n5, n6⟩, hx⟩ := ok
  have k2 := up_other0 (L := L) (vs := vs) (hx r.kS (by simp [Rw.ks]))
  have hs : (W.setCell ⟨G, off, none⟩ (vs.getD r.kA undef)).heap.size = W.heap.size := by simp [World.setCell]
  have hoth : ∀ k, k ≠ G → (W.setCell ⟨G, off, none⟩ (vs.getD r.kA undef)).heap[k]? = W.heap[k]? := fun k hk => Below.heap_setCell _ _ _ k hk
  have hgr : W.grownBy (W.setCell ⟨G, off, none⟩ (vs.getD r.kA undef)) (some G) := ⟨rfl, rfl, rfl, by rw [hs]; omega, fun k _ hk => hoth k (fun e => hk (by rw [e]))⟩
  have hne : ∀ {e : TypeId} {s : Nat} {v : Value} {n : Nat} {xs : List Value}, TB ≠ e → W.ownsRow base e s v n xs → v.ownBlock = none ∨ v.ownBlock ≠ some G := fun ht hrow => .inr fun e => h.blk.ne_row hrow ht e.symm
  have hlit : ∀ (e : TypeId) g cs, W1.heap.size ≤ g → Blk W g cs e → Blk (W.setCell ⟨G, off, none⟩ (vs.getD r.kA undef)) g cs e := fun e g cs hg hb => hb.of_block (hoth g (by have := h.ltG; omega))
  refine ⟨⟨fun e => ?_, fun e => ?_, fun _ => ?_, fun e => ?_, fun e => ?_, fun e => ?_, h.r1.lt⟩, h.r2.move k2 (fun _ _ x => x.kept hgr (hne hT' x)) (hlit T'), ?_, h.os, h.tape, h.output, by rw [hs]; exact h.size, fun k h1 h2 h3 h4 => ?_, h.ltG⟩
  · rw [getD_other (fun e => n3 e.symm)] at e; exact h.r1.load e
  · rw [getD_other (fun e => n6 e.symm)] at e; rw [getD_other (fun e => n3 e.symm)]; exact h.r1.oL e
  · rw [getD_other (fun e => n6 e.symm)]; exact hl
  · rw [getD_other (fun e => n5 e.symm)] at e
    obtain ⟨g, e1, e2, e3⟩ := h.r1.lit e
    exact ⟨g, e1, e2, hlit T g _ e2 e3⟩
  · rw [getD_other (fun e => n6 e.symm), hl] at e; cases e
  · exact (h.r1.row1 hl).kept hgr (hne hT (h.r1.row1 hl))
  · rw [st_same k2]
    have e1 : r.st (L.setIfInBounds r.kS true) vs = vs.getD r.kA undef := by
      unfold Rw.st
      rw [if_pos getD_self]
    have e2 : r.st L vs = r.a := by
      unfold Rw.st
      rw [if_neg (by rw [hun]; decide)]
    have := h.blk.set off (vs.getD r.kA undef)
    rw [e2, hset] at this
    rw [e1]
    exact this
  · rw [hoth k h2]
    exact h.frame k h1 h2 h3 h4
theorem DAq.init (hL : ∀ k ∈ r.ks ++ r'.ks, L.getD k true = false) (h1 : W1.ownsRow base T sz r.a r.n r.xs) (h2 : W1.ownsRow base T' sz' r'.a r'.n r'.xs) (hb : Blk W1 G (cc r.a r'.a) TB) : DAq T T' TB sz sz' base W1 G cc r r' L vs W1.drew := by
  have k1 : ∀ k ∈ r.ks, L.getD k true = true → False := fun k hk e => by rw [hL k (List.mem_append_left _ hk)] at e; cases e
  have k2 : ∀ k ∈ r'.ks, L.getD k true = true → False := fun k hk e => by rw [hL k (List.mem_append_right _ hk)] at e; cases e
  have m1 : r.kL ∈ r.ks ∧ r.kB ∈ r.ks ∧ r.kA ∈ r.ks ∧ r.kS ∈ r.ks := by simp [Rw.ks]
  have m2 : r'.kL ∈ r'.ks ∧ r'.kB ∈ r'.ks ∧ r'.kA ∈ r'.ks ∧ r'.kS ∈ r'.ks := by simp [Rw.ks]
  have c1 : r.st L vs = r.a := by unfold Rw.st; rw [if_neg (k1 _ m1.2.2.2)]
  have c2 : r'.st L vs = r'.a := by unfold Rw.st; rw [if_neg (k2 _ m2.2.2.2)]
  exact ⟨⟨fun e => (k1 _ m1.1 e).elim, fun e => (k1 _ m1.2.2.1 e).elim, fun e => (k1 _ m1.2.2.2 e).elim, fun e => (k1 _ m1.2.1 e).elim, fun _ => h1, fun e => (k1 _ m1.2.2.1 e).elim, fun b e => (h1.lt b e).2⟩,
    ⟨fun e => (k2 _ m2.1 e).elim, fun e => (k2 _ m2.2.2.1 e).elim, fun e => (k2 _ m2.2.2.2 e).elim, fun e => (k2 _ m2.2.1 e).elim, fun _ => h2, fun e => (k2 _ m2.2.2.1 e).elim, fun b e => (h2.lt b e).2⟩,
    by rw [c1, c2]; exact hb, rfl, rfl, rfl, Nat.le_refl _, fun _ _ _ _ _ => rfl, hb.lt⟩
end
end Go.Proofs.YtmhhohancconaaaGreat
