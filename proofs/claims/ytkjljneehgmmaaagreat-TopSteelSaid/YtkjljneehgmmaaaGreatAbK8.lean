/- DApp, DAq in one text. -/
import Derived.Test.YtkjljneehgmmaaaGreatAbK2
import Derived.Maps.AppendAt
namespace Go.Proofs.YtkjljneehgmmaaaGreat
open Go Go.RowKit
set_option maxRecDepth 20000

structure Rw where
 kL : Nat
 kB : Nat
 kA : Nat
 kS : Nat
 G : Nat
 off : Nat
 c : Array Value
 a : Value
 n : Nat
 xs : List Value
 news : List Value
def Rw.cur (r : Rw) (L : Array Bool) (vs : List Value) : Value := if L.getD r.kA true = true then vs.getD r.kA undef else r.a
def Rw.ks (r : Rw) : List Nat := [r.kL, r.kB, r.kA, r.kS]
structure RwAt (T TB : TypeId) (sz base : Nat) (W1 : World) (r : Rw) (L : Array Bool) (vs : List Value) (W : World) : Prop where
 load : L.getD r.kL true = true → vs.getD r.kL undef = r.a
 oL : L.getD r.kA true = true → L.getD r.kL true = true
 oS : L.getD r.kS true = true → L.getD r.kA true = true
 lit : L.getD r.kB true = true → ∃ g, vs.getD r.kB undef = .slice (some ⟨g, 0, none⟩) 1 1 ∧ W1.heap.size ≤ g ∧ Blk W g r.news.toArray T
 row0 : L.getD r.kA true = false → W.ownsRow base T sz r.a r.n r.xs
 row1 : L.getD r.kA true = true → W.ownsRow base T sz (vs.getD r.kA undef) (r.n + 1) (r.xs ++ r.news)
 blk0 : L.getD r.kS true = false → Blk W r.G r.c TB
 blk1 : L.getD r.kS true = true → Blk W r.G (r.c.setIfInBounds r.off (vs.getD r.kA undef)) TB
 lt : ∀ b, r.a.ownBlock = some b → b < W1.heap.size
 ltG : r.G < W1.heap.size
section
variable {T TB : TypeId} {sz base : Nat} {W1 W W' : World} {r r' : Rw} {L L' : Array Bool} {vs vs' : List Value}
theorem RwAt.row (h : RwAt T TB sz base W1 r L vs W) : ∃ n xs, W.ownsRow base T sz (r.cur L vs) n xs := by
 unfold Rw.cur
 cases e : L.getD r.kA true
 ·exact ⟨_, _, h.row0 e⟩
 ·exact ⟨_, _, h.row1 e⟩
theorem RwAt.move (h : RwAt T TB sz base W1 r L vs W) (hk : ∀ k ∈ r.ks, L.getD k true = L'.getD k true ∧ vs.getD k undef = vs'.getD k undef)
  (hrow : ∀ n xs, W.ownsRow base T sz (r.cur L vs) n xs → W'.ownsRow base T sz (r.cur L vs) n xs) (hlit : ∀ g cs, W1.heap.size ≤ g → Blk W g cs T → Blk W' g cs T) (hG : ∀ cs, Blk W r.G cs TB → Blk W' r.G cs TB) : RwAt T TB sz base W1 r L' vs' W' := by
 obtain ⟨l1, l2⟩ := hk r.kL (by simp [Rw.ks])
 obtain ⟨b1, b2⟩ := hk r.kB (by simp [Rw.ks])
 obtain ⟨a1, a2⟩ := hk r.kA (by simp [Rw.ks])
 obtain ⟨s1, -⟩ := hk r.kS (by simp [Rw.ks])
 refine ⟨fun e => ?_, fun e => ?_, fun e => ?_, fun e => ?_, fun e => ?_, fun e => ?_, fun e => ?_, fun e => ?_, h.lt, h.ltG⟩
 ·rw [← l2]; exact h.load (by rwa [l1])
 ·rw [← l1]; exact h.oL (by rwa [a1])
 ·rw [← a1]; exact h.oS (by rwa [s1])
 ·obtain ⟨g, h1, h2, h3⟩ := h.lit (by rwa [b1])
  exact ⟨g, by rw [← b2]; exact h1, h2, hlit g _ h2 h3⟩
 ·rw [← a1] at e
  have := hrow r.n r.xs
  unfold Rw.cur at this
  rw [if_neg (by rw [e]; decide)] at this
  exact this (h.row0 e)
 ·rw [← a1] at e
  have := hrow (r.n + 1) (r.xs ++ r.news)
  unfold Rw.cur at this
  rw [if_pos e] at this
  rw [← a2]
  exact this (h.row1 e)
 ·exact hG _ (h.blk0 (by rwa [s1]))
 ·rw [← a2]; exact hG _ (h.blk1 (by rwa [s1]))

structure DApp (T TB : TypeId) (sz base : Nat) (W1 : World) (r r' : Rw) (L : Array Bool) (vs : List Value) (W : World) : Prop where
 r1 : RwAt T TB sz base W1 r L vs W
 r2 : RwAt T TB sz base W1 r' L vs W
 sep : ∀ b, (r.cur L vs).ownBlock = some b → (r'.cur L vs).ownBlock ≠ some b
 ne : r.G ≠ r'.G
 os : W.os = W1.os
 tape : W.tape = W1.tape
 output : W.output = W1.output
 size : W1.heap.size ≤ W.heap.size
 frame : ∀ k, k < W1.heap.size → k ≠ r.G → k ≠ r'.G → r.a.ownBlock ≠ some k → r'.a.ownBlock ≠ some k → W.heap[k]? = W1.heap[k]?
theorem DApp.swap (h : DApp T TB sz base W1 r r' L vs W) : DApp T TB sz base W1 r' r L vs W :=
 ⟨h.r2, h.r1, fun b e e' => h.sep b e' e, fun e => h.ne e.symm, h.os, h.tape, h.output, h.size, fun k h1 h2 h3 h4 h5 => h.frame k h1 h3 h2 h5 h4⟩
theorem cur_same (hk : ∀ k ∈ r.ks, L.getD k true = L'.getD k true ∧ vs.getD k undef = vs'.getD k undef) : r.cur L' vs' = r.cur L vs := by
 obtain ⟨a1, a2⟩ := hk r.kA (by simp [Rw.ks])
 unfold Rw.cur
 rw [a1, a2]
theorem DApp.same (h : DApp T TB sz base W1 r r' L vs W) (hk : ∀ k ∈ r.ks ++ r'.ks, L.getD k true = L'.getD k true ∧ vs.getD k undef = vs'.getD k undef) : DApp T TB sz base W1 r r' L' vs' W := by
 have k1 : ∀ k ∈ r.ks, L.getD k true = L'.getD k true ∧ vs.getD k undef = vs'.getD k undef := fun k hm => hk k (List.mem_append_left _ hm)
 have k2 : ∀ k ∈ r'.ks, L.getD k true = L'.getD k true ∧ vs.getD k undef = vs'.getD k undef := fun k hm => hk k (List.mem_append_right _ hm)
 exact ⟨h.r1.move k1 (fun _ _ x => x) (fun _ _ _ x => x) (fun _ x => x), h.r2.move k2 (fun _ _ x => x) (fun _ _ _ x => x) (fun _ x => x), by rw [cur_same k1, cur_same k2]; exact h.sep, h.ne, h.os, h.tape, h.output, h.size, h.frame⟩
theorem DApp.grows (h : DApp T TB sz base W1 r r' L vs W) (hb : Below W.heap.size W W') : DApp T TB sz base W1 r r' L vs W' := by
 have hg : W.grownBy W' none := ⟨hb.os, hb.tape, hb.output, hb.size, fun k hk _ => hb.block k hk⟩
 have kk : ∀ (r : Rw), ∀ k ∈ r.ks, L.getD k true = L.getD k true ∧ vs.getD k undef = vs.getD k undef := fun _ _ _ => ⟨rfl, rfl⟩
 refine ⟨h.r1.move (kk r) (fun _ _ x => x.kept hg (by cases (r.cur L vs).ownBlock <;> simp)) (fun _ _ _ x => x.below hb) (fun _ x => x.below hb), h.r2.move (kk r') (fun _ _ x => x.kept hg (by cases (r'.cur L vs).ownBlock <;> simp)) (fun _ _ _ x => x.below hb) (fun _ x => x.below hb), h.sep, h.ne, hb.os.trans h.os, hb.tape.trans h.tape, hb.output.trans h.output, Nat.le_trans h.size hb.size, fun k h1 h2 h3 h4 h5 => ?_⟩
 rw [hb.block k (Nat.lt_of_lt_of_le h1 h.size)]
 exact h.frame k h1 h2 h3 h4 h5
theorem DApp.part : PartG (r.ks ++ r'.ks) (DApp T TB sz base W1 r r') := ⟨fun _ _ _ _ _ hk h => h.same hk, fun _ _ _ x h => h.grows (below_ext _ x)⟩

theorem DApp.cell (h : DApp T TB sz base W1 r r' L vs W) (hun : L.getD r.kL true = false) (hc : r.c[r.off]? = some r.a) : W.cell? ⟨r.G, r.off, none⟩ = some r.a := by
 have hS : L.getD r.kS true = false := by
  cases e : L.getD r.kS true
  ·rfl
  ·have := h.r1.oL (h.r1.oS e)
   rw [hun] at this; cases this
 rw [(h.r1.blk0 hS).cell, hc]
def Rw.ok (r r' : Rw) : Prop := (r.kL ≠ r.kB ∧ r.kL ≠ r.kA ∧ r.kL ≠ r.kS ∧ r.kB ≠ r.kA ∧ r.kB ≠ r.kS ∧ r.kA ≠ r.kS) ∧ ∀ k ∈ r.ks, k ∉ r'.ks
theorem up_other {i : Nat} {u : Value} {ks : List Nat} (hi : i ∉ ks) : ∀ k ∈ ks, L.getD k true = (L.setIfInBounds i true).getD k true ∧ vs.getD k undef = (vs.set i u).getD k undef := fun k hk => by
 have hne : i ≠ k := fun e => hi (e ▸ hk)
 exact ⟨(getD_other hne).symm, (getD_set_other hne u).symm⟩
theorem up_other0 {i : Nat} {ks : List Nat} (hi : i ∉ ks) : ∀ k ∈ ks, L.getD k true = (L.setIfInBounds i true).getD k true ∧ vs.getD k undef = vs.getD k undef := fun k hk => by
 have hne : i ≠ k := fun e => hi (e ▸ hk)
 exact ⟨(getD_other hne).symm, rfl⟩

theorem DApp.stepL (h : DApp T TB sz base W1 r r' L vs W) (ok : r.ok r') (hi : r.kL < vs.length) {u : Value} (hu : u = r.a) : DApp T TB sz base W1 r r' (L.setIfInBounds r.kL true) (vs.set r.kL u) W := by
 obtain ⟨⟨n1, n2, n3, n4, n5, n6⟩, hx⟩ := ok
 have k2 := up_other (L := L) (vs := vs) (u := u) (hx r.kL (by simp [Rw.ks]))
 have hcur : r.cur (L.setIfInBounds r.kL true) (vs.set r.kL u) = r.cur L vs := by
  unfold Rw.cur
  rw [getD_other n2, getD_set_other n2]
 refine ⟨⟨fun _ => by rw [getD_set_self' hi, hu], fun _ => getD_self, fun e => ?_, fun e => ?_, fun e => ?_, fun e => ?_, fun e => ?_, fun e => ?_, h.r1.lt, h.r1.ltG⟩, h.r2.move k2 (fun _ _ x => x) (fun _ _ _ x => x) (fun _ x => x), by rw [hcur, cur_same k2]; exact h.sep, h.ne, h.os, h.tape, h.output, h.size, h.frame⟩
 ·rw [getD_other n3] at e; rw [getD_other n2]; exact h.r1.oS e
 ·rw [getD_other n1] at e; rw [getD_set_other n1]; exact h.r1.lit e
 ·rw [getD_other n2] at e; exact h.r1.row0 e
 ·rw [getD_other n2] at e; rw [getD_set_other n2]; exact h.r1.row1 e
 ·rw [getD_other n3] at e; exact h.r1.blk0 e
 ·rw [getD_other n3] at e; rw [getD_set_other n2]; exact h.r1.blk1 e
theorem DApp.stepB (h : DApp T TB sz base W1 r r' L vs W) (ok : r.ok r') (hi : r.kB < vs.length) {u : Value} (hu : u = .slice (some ⟨W.heap.size, 0, none⟩) 1 1) {cs : Array Value} (hcs : cs = r.news.toArray) : DApp T TB sz base W1 r r' (L.setIfInBounds r.kB true) (vs.set r.kB u) (W.alloc (.cells cs T)) := by
 subst hcs
 obtain ⟨⟨n1, n2, n3, n4, n5, n6⟩, hx⟩ := ok
 have hb : Below W.heap.size W (W.alloc (.cells r.news.toArray T)) := grow_alloc _ (Below.refl _ _)
 have h' := h.grows hb
 have k2 := up_other (L := L) (vs := vs) (u := u) (hx r.kB (by simp [Rw.ks]))
 have hcur : r.cur (L.setIfInBounds r.kB true) (vs.set r.kB u) = r.cur L vs := by
  unfold Rw.cur
  rw [getD_other n4, getD_set_other n4]
 refine ⟨⟨fun e => ?_, fun e => ?_, fun e => ?_, fun _ => ⟨W.heap.size, by rw [getD_set_self' hi, hu], h.size, Blk.new _ _ _⟩, fun e => ?_, fun e => ?_, fun e => ?_, fun e => ?_, h.r1.lt, h.r1.ltG⟩, h'.r2.move k2 (fun _ _ x => x) (fun _ _ _ x => x) (fun _ x => x), by rw [hcur, cur_same k2]; exact h.sep, h.ne, h'.os, h'.tape, h'.output, h'.size, h'.frame⟩
 ·rw [getD_other (fun e => n1 e.symm)] at e; rw [getD_set_other (fun e => n1 e.symm)]; exact h.r1.load e
 ·rw [getD_other n4] at e; rw [getD_other (fun e => n1 e.symm)]; exact h.r1.oL e
 ·rw [getD_other n5] at e; rw [getD_other n4]; exact h.r1.oS e
 ·rw [getD_other n4] at e; exact h'.r1.row0 e
 ·rw [getD_other n4] at e; rw [getD_set_other n4]; exact h'.r1.row1 e
 ·rw [getD_other n5] at e; exact h'.r1.blk0 e
 ·rw [getD_other n5] at e; rw [getD_set_other n4]; exact h'.r1.blk1 e
theorem DApp.stepA (h : DApp T TB sz base W1 r r' L vs W) (ok : r.ok r') (hi : r.kA < vs.length) (hT : TB ≠ T) (hun : L.getD r.kA true = false) (hl : L.getD r.kL true = true) {u : Value}
  (hown : W'.ownsRow base T sz u (r.n + 1) (r.xs ++ r.news)) (hg : W.grownBy W' r.a.ownBlock) (hw : u.ownBlock = r.a.ownBlock ∨ u.ownBlock = some W.heap.size) : DApp T TB sz base W1 r r' (L.setIfInBounds r.kA true) (vs.set r.kA u) W' := by
 obtain ⟨⟨n1, n2, n3, n4, n5, n6⟩, hx⟩ := ok
 have k2 := up_other (L := L) (vs := vs) (u := u) (hx r.kA (by simp [Rw.ks]))
 have hS : L.getD r.kS true = false := by
  cases e : L.getD r.kS true
  ·rfl
  ·have := h.r1.oS e
   rw [hun] at this; cases this
 have hold : r.cur L vs = r.a := by unfold Rw.cur; rw [if_neg (by rw [hun]; decide)]
 have hnew : r.cur (L.setIfInBounds r.kA true) (vs.set r.kA u) = u := by unfold Rw.cur; rw [if_pos getD_self, getD_set_self' hi]
 obtain ⟨n', xs', hrow'⟩ := h.r2.row
 have hsep : (r'.cur L vs).ownBlock = none ∨ (r'.cur L vs).ownBlock ≠ r.a.ownBlock := by
  cases e : (r'.cur L vs).ownBlock with
  | none => exact .inl rfl
  | some b => exact .inr fun q => h.sep b (by rw [hold]; exact q.symm) e
 have hlit : ∀ g cs, W1.heap.size ≤ g → Blk W g cs T → Blk W' g cs T := fun g cs hg1 hb => hb.grown hg (fun e => by have := h.r1.lt g e.symm; omega)
 have hGk : ∀ (G : Nat) (cs : Array Value), Blk W G cs TB → Blk W' G cs TB := fun G cs hb => hb.grown hg (hb.ne_row (h.r1.row0 hun) hT)
 refine ⟨⟨fun e => ?_, fun _ => ?_, fun _ => getD_self, fun e => ?_, fun e => ?_, fun _ => ?_, fun e => ?_, fun e => ?_, h.r1.lt, h.r1.ltG⟩, h.r2.move k2 (fun _ _ x => x.kept hg hsep) hlit (fun cs => hGk _ cs), ?_, h.ne, hg.os.trans h.os, hg.tape.trans h.tape, hg.output.trans h.output, Nat.le_trans h.size hg.size, fun k h1 h2 h3 h4 h5 => ?_⟩
 ·rw [getD_other (fun e => n2 e.symm)] at e; rw [getD_set_other (fun e => n2 e.symm)]; exact h.r1.load e
 ·rw [getD_other (fun e => n2 e.symm)]; exact hl
 ·rw [getD_other (fun e => n4 e.symm)] at e
  rw [getD_set_other (fun e => n4 e.symm)]
  obtain ⟨g, e1, e2, e3⟩ := h.r1.lit e
  exact ⟨g, e1, e2, hlit g _ e2 e3⟩
 ·rw [getD_self] at e; cases e
 ·rw [getD_set_self' hi]; exact hown
 ·exact hGk _ _ (h.r1.blk0 hS)
 ·rw [getD_other n6, hS] at e; cases e
 ·rw [hnew, cur_same k2]
  intro b hb hb'
  rcases hw with hw | hw
  ·rw [hw] at hb
   exact h.sep b (by rw [hold]; exact hb) hb'
  ·rw [hw] at hb
   have := (hrow'.lt b hb').2
   injection hb with hb
   omega
 ·rw [hg.block k (Nat.lt_of_lt_of_le h1 h.size) (fun e => h4 e.symm)]
  exact h.frame k h1 h2 h3 h4 h5
theorem DApp.stepS (h : DApp T TB sz base W1 r r' L vs W) (ok : r.ok r') (hT : TB ≠ T) (hun : L.getD r.kS true = false) (hl : L.getD r.kA true = true) {u : Value} (hu : vs.getD r.kA undef = u) (hW : W' = W.setCell ⟨r.G, r.off, none⟩ u) : DApp T TB sz base W1 r r' (L.setIfInBounds r.kS true) vs W' := by
 subst hW hu
 obtain ⟨⟨n1, n2, n3, n4, n5, n6⟩, hx⟩ := ok
 have k2 := up_other0 (L := L) (vs := vs) (hx r.kS (by simp [Rw.ks]))
 have hs : (W.setCell ⟨r.G, r.off, none⟩ (vs.getD r.kA undef)).heap.size = W.heap.size := by simp [World.setCell]
 have hoth : ∀ k, k ≠ r.G → (W.setCell ⟨r.G, r.off, none⟩ (vs.getD r.kA undef)).heap[k]? = W.heap[k]? := fun k hk => Below.heap_setCell _ _ _ k hk
 have hgr : W.grownBy (W.setCell ⟨r.G, r.off, none⟩ (vs.getD r.kA undef)) (some r.G) := ⟨rfl, rfl, rfl, by rw [hs]; omega, fun k _ hk => hoth k (fun e => hk (by rw [e]))⟩
 have hne : ∀ {v : Value} {n : Nat} {xs : List Value}, W.ownsRow base T sz v n xs → v.ownBlock = none ∨ v.ownBlock ≠ some r.G := fun hrow => .inr fun e => (h.r1.blk0 hun).ne_row hrow hT e.symm
 have hcur : r.cur (L.setIfInBounds r.kS true) vs = r.cur L vs := by
  unfold Rw.cur
  rw [getD_other (fun e => n6 e.symm)]
 have hlit : ∀ g cs, W1.heap.size ≤ g → Blk W g cs T → Blk (W.setCell ⟨r.G, r.off, none⟩ (vs.getD r.kA undef)) g cs T := fun g cs hg hb => hb.of_block (hoth g (by have := h.r1.ltG; omega))
 refine ⟨⟨fun e => ?_, fun e => ?_, fun _ => ?_, fun e => ?_, fun e => ?_, fun e => ?_, fun e => ?_, fun _ => (h.r1.blk0 hun).set _ _, h.r1.lt, h.r1.ltG⟩, h.r2.move k2 (fun _ _ x => x.kept hgr (hne x)) hlit (fun cs hb => hb.of_block (hoth _ (fun e => h.ne e.symm))), by rw [hcur, cur_same k2]; exact h.sep, h.ne, h.os, h.tape, h.output, by rw [hs]; exact h.size, fun k h1 h2 h3 h4 h5 => ?_⟩
 ·rw [getD_other (fun e => n3 e.symm)] at e; exact h.r1.load e
 ·rw [getD_other (fun e => n6 e.symm)] at e; rw [getD_other (fun e => n3 e.symm)]; exact h.r1.oL e
 ·rw [getD_other (fun e => n6 e.symm)]; exact hl
 ·rw [getD_other (fun e => n5 e.symm)] at e
  obtain ⟨g, e1, e2, e3⟩ := h.r1.lit e
  exact ⟨g, e1, e2, hlit g _ e2 e3⟩
 ·rw [getD_other (fun e => n6 e.symm), hl] at e; cases e
 ·exact (h.r1.row1 hl).kept hgr (hne (h.r1.row1 hl))
 ·rw [getD_self] at e; cases e
 ·rw [hoth k h2]
  exact h.frame k h1 h2 h3 h4 h5
theorem DApp.init (hL : ∀ k ∈ r.ks ++ r'.ks, L.getD k true = false) (h1 : W1.ownsRow base T sz r.a r.n r.xs) (h2 : W1.ownsRow base T sz r'.a r'.n r'.xs) (b1 : Blk W1 r.G r.c TB) (b2 : Blk W1 r'.G r'.c TB)
  (hs : ∀ b, r.a.ownBlock = some b → r'.a.ownBlock ≠ some b) (hne : r.G ≠ r'.G) : DApp T TB sz base W1 r r' L vs W1.drew := by
 have k1 : ∀ k ∈ r.ks, L.getD k true = true → False := fun k hk e => by rw [hL k (List.mem_append_left _ hk)] at e; cases e
 have k2 : ∀ k ∈ r'.ks, L.getD k true = true → False := fun k hk e => by rw [hL k (List.mem_append_right _ hk)] at e; cases e
 have m1 : r.kL ∈ r.ks ∧ r.kB ∈ r.ks ∧ r.kA ∈ r.ks ∧ r.kS ∈ r.ks := by simp [Rw.ks]
 have m2 : r'.kL ∈ r'.ks ∧ r'.kB ∈ r'.ks ∧ r'.kA ∈ r'.ks ∧ r'.kS ∈ r'.ks := by simp [Rw.ks]
 have c1 : r.cur L vs = r.a := by unfold Rw.cur; rw [if_neg (k1 _ m1.2.2.1)]
 have c2 : r'.cur L vs = r'.a := by unfold Rw.cur; rw [if_neg (k2 _ m2.2.2.1)]
 exact ⟨⟨fun e => (k1 _ m1.1 e).elim, fun e => (k1 _ m1.2.2.1 e).elim, fun e => (k1 _ m1.2.2.2 e).elim, fun e => (k1 _ m1.2.1 e).elim, fun _ => h1, fun e => (k1 _ m1.2.2.1 e).elim, fun _ => b1, fun e => (k1 _ m1.2.2.2 e).elim, fun b e => (h1.lt b e).2, b1.lt⟩,
  ⟨fun e => (k2 _ m2.1 e).elim, fun e => (k2 _ m2.2.2.1 e).elim, fun e => (k2 _ m2.2.2.2 e).elim, fun e => (k2 _ m2.2.1 e).elim, fun _ => h2, fun e => (k2 _ m2.2.2.1 e).elim, fun _ => b2, fun e => (k2 _ m2.2.2.2 e).elim, fun b e => (h2.lt b e).2, b2.lt⟩,
  by rw [c1, c2]; exact hs, hne, rfl, rfl, rfl, Nat.le_refl _, fun _ _ _ _ _ _ => rfl⟩
end
theorem blk_news {w : World} {g : Nat} {news : List Value} {T : TypeId} (h : Blk w g news.toArray T) : ∀ j u, news[j]? = some u → w.cell? ((⟨g, 0, none⟩ : Addr).add j) = some u := by
 intro j u hj
 have e : (⟨g, 0, none⟩ : Addr).add j = ⟨g, j, none⟩ := by
  simp only [Addr.add, Nat.zero_add]; split
  ·rename_i h; rw [h]
  ·rfl
 rw [e, h.cell]
 simpa using hj
theorem app_own_w2 {P : Program} {ops : Array Oper} {rest : List Oper} {o : Oper} {a : Act} {Q : Exit → Act → World → Prop} (hgd : o.guard = none) (s x : Operand) (t : TypeId)
  (ho : o.op = .call { callee := .builtin .append, args := #[s, x], argTypes := #[t, t] })
  (e : TypeId) (z : Value) (size bytes : Nat) (ht : P.underlying t = some (.slice e)) (hi : (P.info? e).map (fun i => (i.zero, i.size, i.bytes)) = some (some z, size, bytes)) (hzs : z.cells.size = size) (hsz : 0 < size)
  (base : Nat) (v : Value) (n : Nat) (xs : List Value) (w : World) (hs : a.eval s = v) (hown : w.ownsRow base e size v n xs)
  (g m c : Nat) (news : List Value) (hx : a.eval x = .slice (some ⟨g, 0, none⟩) m c) (hl : news.length = m * size) (hnews : Blk w g news.toArray e) (h1 : ∀ u ∈ news, u.oneCell' = true)
  (hroom : (n + m) * bytes ≤ 140737488355328) (hby : 0 < bytes) (hB : base ≤ w.heap.size)
  (h : ∀ v' w', w'.ownsRow base e size v' (n + m) (xs ++ news) → w.grownBy w' v.ownBlock → (v'.ownBlock = v.ownBlock ∨ v'.ownBlock = some w.heap.size) → wpList P ops Q rest (a.put o.dst v') w') : wpList P ops Q (o :: rest) a w := by
 obtain ⟨i0, hi, hz0, hz1, hz2⟩ := info_parts hi
 have h63 : n + m ≤ maxLen := by
  unfold maxLen
  have := Nat.le_mul_of_pos_right (n + m) hby
  omega
 refine wpList_append_own_at w hgd s x t ho base e i0 z size bytes ht hi hz0 hz1 hz2 hzs hsz v n xs hs hown ⟨g, 0, none⟩ m c news hx hl (blk_news hnews) h1 h63 hroom hB ?_
 intro v' w' hown' hgrow _ hwhere
 exact h v' w' hown' hgrow hwhere
end Go.Proofs.YtkjljneehgmmaaaGreat

namespace Go.Proofs.YtkjljneehgmmaaaGreat
open Go Go.RowKit
set_option maxRecDepth 20000

def Rw.st (r : Rw) (L : Array Bool) (vs : List Value) : Value := if L.getD r.kS true = true then vs.getD r.kA undef else r.a
structure RxAt (T : TypeId) (sz base : Nat) (W1 : World) (r : Rw) (L : Array Bool) (vs : List Value) (W : World) : Prop where
 load : L.getD r.kL true = true → vs.getD r.kL undef = r.a
 oL : L.getD r.kA true = true → L.getD r.kL true = true
 oS : L.getD r.kS true = true → L.getD r.kA true = true
 lit : L.getD r.kB true = true → ∃ g, vs.getD r.kB undef = .slice (some ⟨g, 0, none⟩) 1 1 ∧ W1.heap.size ≤ g ∧ Blk W g r.news.toArray T
 row0 : L.getD r.kA true = false → W.ownsRow base T sz r.a r.n r.xs
 row1 : L.getD r.kA true = true → W.ownsRow base T sz (vs.getD r.kA undef) (r.n + 1) (r.xs ++ r.news)
 lt : ∀ b, r.a.ownBlock = some b → b < W1.heap.size
section
variable {T T' TB : TypeId} {sz sz' base G : Nat} {W1 W W' : World} {r r' : Rw} {L L' : Array Bool} {vs vs' : List Value} {cc : Value → Value → Array Value}
theorem RxAt.row (h : RxAt T sz base W1 r L vs W) : ∃ n xs, W.ownsRow base T sz (r.cur L vs) n xs := by
 unfold Rw.cur
 cases e : L.getD r.kA true
 ·exact ⟨_, _, h.row0 e⟩
 ·exact ⟨_, _, h.row1 e⟩
theorem RxAt.move (h : RxAt T sz base W1 r L vs W) (hk : ∀ k ∈ r.ks, L.getD k true = L'.getD k true ∧ vs.getD k undef = vs'.getD k undef)
  (hrow : ∀ n xs, W.ownsRow base T sz (r.cur L vs) n xs → W'.ownsRow base T sz (r.cur L vs) n xs) (hlit : ∀ g cs, W1.heap.size ≤ g → Blk W g cs T → Blk W' g cs T) : RxAt T sz base W1 r L' vs' W' := by
 obtain ⟨l1, l2⟩ := hk r.kL (by simp [Rw.ks])
 obtain ⟨b1, b2⟩ := hk r.kB (by simp [Rw.ks])
 obtain ⟨a1, a2⟩ := hk r.kA (by simp [Rw.ks])
 obtain ⟨s1, -⟩ := hk r.kS (by simp [Rw.ks])
 refine ⟨fun e => ?_, fun e => ?_, fun e => ?_, fun e => ?_, fun e => ?_, fun e => ?_, h.lt⟩
 ·rw [← l2]; exact h.load (by rwa [l1])
 ·rw [← l1]; exact h.oL (by rwa [a1])
 ·rw [← a1]; exact h.oS (by rwa [s1])
 ·obtain ⟨g, h1, h2, h3⟩ := h.lit (by rwa [b1])
  exact ⟨g, by rw [← b2]; exact h1, h2, hlit g _ h2 h3⟩
 ·rw [← a1] at e
  have := hrow r.n r.xs
  unfold Rw.cur at this
  rw [if_neg (by rw [e]; decide)] at this
  exact this (h.row0 e)
 ·rw [← a1] at e
  have := hrow (r.n + 1) (r.xs ++ r.news)
  unfold Rw.cur at this
  rw [if_pos e] at this
  rw [← a2]
  exact this (h.row1 e)
structure DAq (T T' TB : TypeId) (sz sz' base : Nat) (W1 : World) (G : Nat) (cc : Value → Value → Array Value) (r r' : Rw) (L : Array Bool) (vs : List Value) (W : World) : Prop where
 r1 : RxAt T sz base W1 r L vs W
 r2 : RxAt T' sz' base W1 r' L vs W
 blk : Blk W G (cc (r.st L vs) (r'.st L vs)) TB
 os : W.os = W1.os
 tape : W.tape = W1.tape
 output : W.output = W1.output
 size : W1.heap.size ≤ W.heap.size
 frame : ∀ k, k < W1.heap.size → k ≠ G → r.a.ownBlock ≠ some k → r'.a.ownBlock ≠ some k → W.heap[k]? = W1.heap[k]?
 ltG : G < W1.heap.size
theorem DAq.swap (h : DAq T T' TB sz sz' base W1 G cc r r' L vs W) : DAq T' T TB sz' sz base W1 G (fun b a => cc a b) r' r L vs W :=
 ⟨h.r2, h.r1, h.blk, h.os, h.tape, h.output, h.size, fun k h1 h2 h3 h4 => h.frame k h1 h2 h4 h3, h.ltG⟩
theorem DAq.unswap (h : DAq T' T TB sz' sz base W1 G (fun b a => cc a b) r' r L vs W) : DAq T T' TB sz sz' base W1 G cc r r' L vs W :=
 ⟨h.r2, h.r1, h.blk, h.os, h.tape, h.output, h.size, fun k h1 h2 h3 h4 => h.frame k h1 h2 h4 h3, h.ltG⟩
theorem st_same (hk : ∀ k ∈ r.ks, L.getD k true = L'.getD k true ∧ vs.getD k undef = vs'.getD k undef) : r.st L' vs' = r.st L vs := by
 obtain ⟨a1, a2⟩ := hk r.kA (by simp [Rw.ks])
 obtain ⟨s1, s2⟩ := hk r.kS (by simp [Rw.ks])
 unfold Rw.st
 rw [s1, a2]
theorem DAq.same (h : DAq T T' TB sz sz' base W1 G cc r r' L vs W) (hk : ∀ k ∈ r.ks ++ r'.ks, L.getD k true = L'.getD k true ∧ vs.getD k undef = vs'.getD k undef) : DAq T T' TB sz sz' base W1 G cc r r' L' vs' W := by
 have k1 : ∀ k ∈ r.ks, L.getD k true = L'.getD k true ∧ vs.getD k undef = vs'.getD k undef := fun k hm => hk k (List.mem_append_left _ hm)
 have k2 : ∀ k ∈ r'.ks, L.getD k true = L'.getD k true ∧ vs.getD k undef = vs'.getD k undef := fun k hm => hk k (List.mem_append_right _ hm)
 exact ⟨h.r1.move k1 (fun _ _ x => x) (fun _ _ _ x => x), h.r2.move k2 (fun _ _ x => x) (fun _ _ _ x => x), by rw [st_same k1, st_same k2]; exact h.blk, h.os, h.tape, h.output, h.size, h.frame, h.ltG⟩
theorem DAq.grows (h : DAq T T' TB sz sz' base W1 G cc r r' L vs W) (hb : Below W.heap.size W W') : DAq T T' TB sz sz' base W1 G cc r r' L vs W' := by
 have hg : W.grownBy W' none := ⟨hb.os, hb.tape, hb.output, hb.size, fun k hk _ => hb.block k hk⟩
 have kk : ∀ (r : Rw), ∀ k ∈ r.ks, L.getD k true = L.getD k true ∧ vs.getD k undef = vs.getD k undef := fun _ _ _ => ⟨rfl, rfl⟩
 refine ⟨h.r1.move (kk r) (fun _ _ x => x.kept hg (by cases (r.cur L vs).ownBlock <;> simp)) (fun _ _ _ x => x.below hb), h.r2.move (kk r') (fun _ _ x => x.kept hg (by cases (r'.cur L vs).ownBlock <;> simp)) (fun _ _ _ x => x.below hb), h.blk.below hb, hb.os.trans h.os, hb.tape.trans h.tape, hb.output.trans h.output, Nat.le_trans h.size hb.size, fun k h1 h2 h3 h4 => ?_, h.ltG⟩
 rw [hb.block k (Nat.lt_of_lt_of_le h1 h.size)]
 exact h.frame k h1 h2 h3 h4
theorem DAq.part : PartG (r.ks ++ r'.ks) (DAq T T' TB sz sz' base W1 G cc r r') := ⟨fun _ _ _ _ _ hk h => h.same hk, fun _ _ _ x h => h.grows (below_ext _ x)⟩
theorem DAq.cell (h : DAq T T' TB sz sz' base W1 G cc r r' L vs W) (hun : L.getD r.kL true = false) {off : Nat} (hc : ∀ a b, (cc a b)[off]? = some a) : W.cell? ⟨G, off, none⟩ = some r.a := by
 have hS : L.getD r.kS true = false := by
  cases e : L.getD r.kS true
  ·rfl
  ·have := h.r1.oL (h.r1.oS e)
   rw [hun] at this; cases this
 rw [h.blk.cell, hc]
 unfold Rw.st
 rw [if_neg (by rw [hS]; decide)]
theorem DAq.stepL (h : DAq T T' TB sz sz' base W1 G cc r r' L vs W) (ok : r.ok r') (hi : r.kL < vs.length) {u : Value} (hu : u = r.a) : DAq T T' TB sz sz' base W1 G cc r r' (L.setIfInBounds r.kL true) (vs.set r.kL u) W := by
 obtain ⟨⟨n1, n2, n3, n4, n5, n6⟩, hx⟩ := ok
 have k2 := up_other (L := L) (vs := vs) (u := u) (hx r.kL (by simp [Rw.ks]))
 refine ⟨⟨fun _ => by rw [getD_set_self' hi, hu], fun _ => getD_self, fun e => ?_, fun e => ?_, fun e => ?_, fun e => ?_, h.r1.lt⟩, h.r2.move k2 (fun _ _ x => x) (fun _ _ _ x => x), ?_, h.os, h.tape, h.output, h.size, h.frame, h.ltG⟩
 ·rw [getD_other n3] at e; rw [getD_other n2]; exact h.r1.oS e
 ·rw [getD_other n1] at e; rw [getD_set_other n1]; exact h.r1.lit e
 ·rw [getD_other n2] at e; exact h.r1.row0 e
 ·rw [getD_other n2] at e; rw [getD_set_other n2]; exact h.r1.row1 e
 ·rw [st_same k2]
  have : r.st (L.setIfInBounds r.kL true) (vs.set r.kL u) = r.st L vs := by
   unfold Rw.st
   rw [getD_other n3, getD_set_other n2]
  rw [this]
  exact h.blk
theorem DAq.stepB (h : DAq T T' TB sz sz' base W1 G cc r r' L vs W) (ok : r.ok r') (hi : r.kB < vs.length) {u : Value} (hu : u = .slice (some ⟨W.heap.size, 0, none⟩) 1 1) {cs : Array Value} (hcs : cs = r.news.toArray) : DAq T T' TB sz sz' base W1 G cc r r' (L.setIfInBounds r.kB true) (vs.set r.kB u) (W.alloc (.cells cs T)) := by
 subst hcs
 obtain ⟨⟨n1, n2, n3, n4, n5, n6⟩, hx⟩ := ok
 have h' := h.grows (grow_alloc (.cells r.news.toArray T) (Below.refl _ W))
 have k2 := up_other (L := L) (vs := vs) (u := u) (hx r.kB (by simp [Rw.ks]))
 refine ⟨⟨fun e => ?_, fun e => ?_, fun e => ?_, fun _ => ⟨W.heap.size, by rw [getD_set_self' hi, hu], h.size, Blk.new _ _ _⟩, fun e => ?_, fun e => ?_, h.r1.lt⟩, h'.r2.move k2 (fun _ _ x => x) (fun _ _ _ x => x), ?_, h'.os, h'.tape, h'.output, h'.size, h'.frame, h.ltG⟩
 ·rw [getD_other (fun e => n1 e.symm)] at e; rw [getD_set_other (fun e => n1 e.symm)]; exact h.r1.load e
 ·rw [getD_other n4] at e; rw [getD_other (fun e => n1 e.symm)]; exact h.r1.oL e
 ·rw [getD_other n5] at e; rw [getD_other n4]; exact h.r1.oS e
 ·rw [getD_other n4] at e; exact h'.r1.row0 e
 ·rw [getD_other n4] at e; rw [getD_set_other n4]; exact h'.r1.row1 e
 ·rw [st_same k2]
  have : r.st (L.setIfInBounds r.kB true) (vs.set r.kB u) = r.st L vs := by
   unfold Rw.st
   rw [getD_other n5, getD_set_other n4]
  rw [this]
  exact h'.blk
theorem DAq.stepA (h : DAq T T' TB sz sz' base W1 G cc r r' L vs W) (ok : r.ok r') (hi : r.kA < vs.length) (hT : TB ≠ T) (hTT : T' ≠ T) (hun : L.getD r.kA true = false) (hl : L.getD r.kL true = true) {u : Value}
  (hown : W'.ownsRow base T sz u (r.n + 1) (r.xs ++ r.news)) (hg : W.grownBy W' r.a.ownBlock) : DAq T T' TB sz sz' base W1 G cc r r' (L.setIfInBounds r.kA true) (vs.set r.kA u) W' := by
 obtain ⟨⟨n1, n2, n3, n4, n5, n6⟩, hx⟩ := ok
 have k2 := up_other (L := L) (vs := vs) (u := u) (hx r.kA (by simp [Rw.ks]))
 have hS : L.getD r.kS true = false := by
  cases e : L.getD r.kS true
  ·rfl
  ·have := h.r1.oS e
   rw [hun] at this; cases this
 obtain ⟨n', xs', hrow'⟩ := h.r2.row
 have hsep := own_ne hrow' (h.r1.row0 hun) hTT
 have hlit : ∀ (e : TypeId) g cs, W1.heap.size ≤ g → Blk W g cs e → Blk W' g cs e := fun e g cs hg1 hb => hb.grown hg (fun e => by have := h.r1.lt g e.symm; omega)
 refine ⟨⟨fun e => ?_, fun _ => ?_, fun _ => getD_self, fun e => ?_, fun e => ?_, fun _ => ?_, h.r1.lt⟩, h.r2.move k2 (fun _ _ x => x.kept hg hsep) (hlit T'), ?_, hg.os.trans h.os, hg.tape.trans h.tape, hg.output.trans h.output, Nat.le_trans h.size hg.size, fun k h1 h2 h3 h4 => ?_, h.ltG⟩
 ·rw [getD_other (fun e => n2 e.symm)] at e; rw [getD_set_other (fun e => n2 e.symm)]; exact h.r1.load e
 ·rw [getD_other (fun e => n2 e.symm)]; exact hl
 ·rw [getD_other (fun e => n4 e.symm)] at e
  rw [getD_set_other (fun e => n4 e.symm)]
  obtain ⟨g, e1, e2, e3⟩ := h.r1.lit e
  exact ⟨g, e1, e2, hlit T g _ e2 e3⟩
 ·rw [getD_self] at e; cases e
 ·rw [getD_set_self' hi]; exact hown
 ·rw [st_same k2]
  have : r.st (L.setIfInBounds r.kA true) (vs.set r.kA u) = r.st L vs := by
   unfold Rw.st
   rw [getD_other n6, hS, if_neg (by decide), if_neg (by decide)]
  rw [this]
  exact h.blk.grown hg (h.blk.ne_row (h.r1.row0 hun) hT)
 ·rw [hg.block k (Nat.lt_of_lt_of_le h1 h.size) (fun e => h3 e.symm)]
  exact h.frame k h1 h2 h3 h4
theorem DAq.stepS (h : DAq T T' TB sz sz' base W1 G cc r r' L vs W) (ok : r.ok r') (hT : TB ≠ T) (hT' : TB ≠ T') {off : Nat} (hset : ∀ a b u, (cc a b).setIfInBounds off u = cc u b) (hun : L.getD r.kS true = false) (hl : L.getD r.kA true = true) {u : Value} (hu : vs.getD r.kA undef = u) (hW : W' = W.setCell ⟨G, off, none⟩ u) : DAq T T' TB sz sz' base W1 G cc r r' (L.setIfInBounds r.kS true) vs W' := by
 subst hW hu
 obtain ⟨⟨n1, n2, n3, n4, n5, n6⟩, hx⟩ := ok
 have k2 := up_other0 (L := L) (vs := vs) (hx r.kS (by simp [Rw.ks]))
 have hs : (W.setCell ⟨G, off, none⟩ (vs.getD r.kA undef)).heap.size = W.heap.size := by simp [World.setCell]
 have hoth : ∀ k, k ≠ G → (W.setCell ⟨G, off, none⟩ (vs.getD r.kA undef)).heap[k]? = W.heap[k]? := fun k hk => Below.heap_setCell _ _ _ k hk
 have hgr : W.grownBy (W.setCell ⟨G, off, none⟩ (vs.getD r.kA undef)) (some G) := ⟨rfl, rfl, rfl, by rw [hs]; omega, fun k _ hk => hoth k (fun e => hk (by rw [e]))⟩
 have hne : ∀ {e : TypeId} {s : Nat} {v : Value} {n : Nat} {xs : List Value}, TB ≠ e → W.ownsRow base e s v n xs → v.ownBlock = none ∨ v.ownBlock ≠ some G := fun ht hrow => .inr fun e => h.blk.ne_row hrow ht e.symm
 have hlit : ∀ (e : TypeId) g cs, W1.heap.size ≤ g → Blk W g cs e → Blk (W.setCell ⟨G, off, none⟩ (vs.getD r.kA undef)) g cs e := fun e g cs hg hb => hb.of_block (hoth g (by have := h.ltG; omega))
 refine ⟨⟨fun e => ?_, fun e => ?_, fun _ => ?_, fun e => ?_, fun e => ?_, fun e => ?_, h.r1.lt⟩, h.r2.move k2 (fun _ _ x => x.kept hgr (hne hT' x)) (hlit T'), ?_, h.os, h.tape, h.output, by rw [hs]; exact h.size, fun k h1 h2 h3 h4 => ?_, h.ltG⟩
 ·rw [getD_other (fun e => n3 e.symm)] at e; exact h.r1.load e
 ·rw [getD_other (fun e => n6 e.symm)] at e; rw [getD_other (fun e => n3 e.symm)]; exact h.r1.oL e
 ·rw [getD_other (fun e => n6 e.symm)]; exact hl
 ·rw [getD_other (fun e => n5 e.symm)] at e
  obtain ⟨g, e1, e2, e3⟩ := h.r1.lit e
  exact ⟨g, e1, e2, hlit T g _ e2 e3⟩
 ·rw [getD_other (fun e => n6 e.symm), hl] at e; cases e
 ·exact (h.r1.row1 hl).kept hgr (hne hT (h.r1.row1 hl))
 ·rw [st_same k2]
  have e1 : r.st (L.setIfInBounds r.kS true) vs = vs.getD r.kA undef := by
   unfold Rw.st
   rw [if_pos getD_self]
  have e2 : r.st L vs = r.a := by
   unfold Rw.st
   rw [if_neg (by rw [hun]; decide)]
  have := h.blk.set off (vs.getD r.kA undef)
  rw [e2, hset] at this
  rw [e1]
  exact this
 ·rw [hoth k h2]
  exact h.frame k h1 h2 h3 h4
theorem DAq.init (hL : ∀ k ∈ r.ks ++ r'.ks, L.getD k true = false) (h1 : W1.ownsRow base T sz r.a r.n r.xs) (h2 : W1.ownsRow base T' sz' r'.a r'.n r'.xs) (hb : Blk W1 G (cc r.a r'.a) TB) : DAq T T' TB sz sz' base W1 G cc r r' L vs W1.drew := by
 have k1 : ∀ k ∈ r.ks, L.getD k true = true → False := fun k hk e => by rw [hL k (List.mem_append_left _ hk)] at e; cases e
 have k2 : ∀ k ∈ r'.ks, L.getD k true = true → False := fun k hk e => by rw [hL k (List.mem_append_right _ hk)] at e; cases e
 have m1 : r.kL ∈ r.ks ∧ r.kB ∈ r.ks ∧ r.kA ∈ r.ks ∧ r.kS ∈ r.ks := by simp [Rw.ks]
 have m2 : r'.kL ∈ r'.ks ∧ r'.kB ∈ r'.ks ∧ r'.kA ∈ r'.ks ∧ r'.kS ∈ r'.ks := by simp [Rw.ks]
 have c1 : r.st L vs = r.a := by unfold Rw.st; rw [if_neg (k1 _ m1.2.2.2)]
 have c2 : r'.st L vs = r'.a := by unfold Rw.st; rw [if_neg (k2 _ m2.2.2.2)]
 exact ⟨⟨fun e => (k1 _ m1.1 e).elim, fun e => (k1 _ m1.2.2.1 e).elim, fun e => (k1 _ m1.2.2.2 e).elim, fun e => (k1 _ m1.2.1 e).elim, fun _ => h1, fun e => (k1 _ m1.2.2.1 e).elim, fun b e => (h1.lt b e).2⟩,
  ⟨fun e => (k2 _ m2.1 e).elim, fun e => (k2 _ m2.2.2.1 e).elim, fun e => (k2 _ m2.2.2.2 e).elim, fun e => (k2 _ m2.2.1 e).elim, fun _ => h2, fun e => (k2 _ m2.2.2.1 e).elim, fun b e => (h2.lt b e).2⟩,
  by rw [c1, c2]; exact hb, rfl, rfl, rfl, Nat.le_refl _, fun _ _ _ _ _ => rfl, hb.lt⟩
end
end Go.Proofs.YtkjljneehgmmaaaGreat

