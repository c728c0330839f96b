/- Two calls that hand back copies, put into two new structs, in one drawn region: what stands while it runs. -/
import Derived.Test.YtafkibnkpcmmgaaHolB
namespace Go.Proofs.Ytafkibnkpcmmgaa
open Go Go.RowKit
set_option maxRecDepth 20000

/-- A struct of two rows of one's own, apart from one another. -/
def Rows2 (base : Nat) (l m : List Bx) (W : World) (v : Value) : Prop :=
  ∃ u t, v = .agg #[u, t] ∧ W.ownsRow base 28 6 u l.length (boxCells l) ∧ W.ownsRow base 28 6 t m.length (boxCells m) ∧ ∀ b, u.ownBlock = some b → t.ownBlock ≠ some b
/-- Their rows are apart. -/
def Far (v v' : Value) : Prop := ∀ u t u' t', v = .agg #[u, t] → v' = .agg #[u', t'] → ∀ b, (u.ownBlock = some b ∨ t.ownBlock = some b) → u'.ownBlock ≠ some b ∧ t'.ownBlock ≠ some b
theorem Far.swap {v v' : Value} (h : Far v v') : Far v' v := fun u t u' t' e e' b hb => ⟨fun q => by have := h u' t' u t e' e b (.inl q); rcases hb with hb | hb <;> simp_all, fun q => by have := h u' t' u t e' e b (.inr q); rcases hb with hb | hb <;> simp_all⟩
theorem Rows2.below {base : Nat} {l m : List Bx} {W W' : World} {v : Value} (h : Rows2 base l m W v) (hb : Below W.heap.size W W') : Rows2 base l m W' v := by
  have hg : W.grownBy W' none := ⟨hb.os, hb.tape, hb.output, hb.size, fun k hk _ => hb.block k hk⟩
  obtain ⟨u, t, h1, h2, h3, h4⟩ := h
  exact ⟨u, t, h1, h2.kept hg (by cases u.ownBlock <;> simp), h3.kept hg (by cases t.ownBlock <;> simp), h4⟩
/-- Rows lie in a world whose one other block has turned. -/
theorem own_other {W W' : World} {base G : Nat} {e T : TypeId} {s n : Nat} {v : Value} {xs : List Value} {cs : Array Value} (x : W.ownsRow base e s v n xs) (hG : Blk W G cs T) (hT : T ≠ e) (hoth : ∀ k, k ≠ G → W'.heap[k]? = W.heap[k]?) : W'.ownsRow base e s v n xs := by
  have hne := hG.ne_row x hT
  refine ⟨x.1, ?_⟩
  rcases x.2 with h1 | ⟨g, cap, cur, rfl, h2, h3, h4⟩
  · exact .inl h1
  · exact .inr ⟨g, cap, cur, rfl, h2, by rw [hoth g (fun e => hne (by rw [e]; rfl))]; exact h3, h4⟩
theorem Rows2.other {base G : Nat} {l m : List Bx} {W W' : World} {v : Value} {cs : Array Value} {T : TypeId} (h : Rows2 base l m W v) (hG : Blk W G cs T) (hT : T ≠ 28) (hoth : ∀ k, k ≠ G → W'.heap[k]? = W.heap[k]?) : Rows2 base l m W' v := by
  obtain ⟨u, t, h1, h2, h3, h4⟩ := h
  exact ⟨u, t, h1, own_other h2 hG hT hoth, own_other h3 hG hT hoth, h4⟩

/-- A chain: the call, the struct made, the copy stored in it. -/
structure Ch where
  kC : Nat
  kM : Nat
  kS : Nat
def Ch.ks (r : Ch) : List Nat := [r.kC, r.kM, r.kS]
structure ChAt (TB : TypeId) (l m : List Bx) (W1 : World) (r : Ch) (L : Array Bool) (vs : List Value) (W : World) : Prop where
  call : L.getD r.kC true = true → Rows2 W1.heap.size l m W (vs.getD r.kC undef)
  made : L.getD r.kM true = true → ∃ g c0 c1, vs.getD r.kM undef = .pointer (some ⟨g, 0, none⟩) ∧ W1.heap.size ≤ g ∧ Blk W g #[c0, c1] TB ∧ (L.getD r.kS true = true → vs.getD r.kC undef = .agg #[c0, c1])
  ord : L.getD r.kS true = true → L.getD r.kC true = true ∧ L.getD r.kM true = true
structure CpK (TB : TypeId) (l m : List Bx) (W1 : World) (r r' : Ch) (L : Array Bool) (vs : List Value) (W : World) : Prop where
  a : ChAt TB l m W1 r L vs W
  b : ChAt TB l m W1 r' L vs W
  far : L.getD r.kC true = true → L.getD r'.kC true = true → Far (vs.getD r.kC undef) (vs.getD r'.kC undef)
  diff : L.getD r.kM true = true → L.getD r'.kM true = true → vs.getD r.kM undef ≠ vs.getD r'.kM undef
  below : Below W1.heap.size W1 W
section
variable {TB : TypeId} {l m : List Bx} {W1 W W' : World} {r r' : Ch} {L L' : Array Bool} {vs vs' : List Value}
theorem CpK.swap (h : CpK TB l m W1 r r' L vs W) : CpK TB l m W1 r' r L vs W := ⟨h.b, h.a, fun e e' => (h.far e' e).swap, fun e e' q => h.diff e' e q.symm, h.below⟩
theorem ChAt.move (h : ChAt TB l m W1 r L vs W) (hk : ∀ k ∈ r.ks, L.getD k true = L'.getD k true ∧ vs.getD k undef = vs'.getD k undef) (hr : ∀ v, Rows2 W1.heap.size l m W v → Rows2 W1.heap.size l m W' v) (hb : L.getD r.kM true = true → ∀ g, vs.getD r.kM undef = .pointer (some ⟨g, 0, none⟩) → ∀ cs, Blk W g cs TB → Blk W' g cs TB) : ChAt TB l m W1 r L' vs' W' := by
  have c := hk r.kC (by simp [Ch.ks])
  have n := hk r.kM (by simp [Ch.ks])
  have s := hk r.kS (by simp [Ch.ks])
  refine ⟨fun e => ?_, fun e => ?_, fun e => ?_⟩
  · rw [← c.2]; exact hr _ (h.call (by rwa [c.1]))
  · rw [← n.1] at e
    obtain ⟨g, c0, c1, h1, h2, h3, h4⟩ := h.made e
    exact ⟨g, c0, c1, by rw [← n.2]; exact h1, h2, hb e g h1 _ h3, by rw [← s.1, ← c.2]; exact h4⟩
  · rw [← c.1, ← n.1]; exact h.ord (by rwa [s.1])
theorem CpK.same (h : CpK TB l m W1 r r' L vs W) (hk : ∀ k ∈ r.ks ++ r'.ks, L.getD k true = L'.getD k true ∧ vs.getD k undef = vs'.getD k undef) : CpK TB l m W1 r r' L' vs' W := by
  have c := hk r.kC (by simp [Ch.ks])
  have c' := hk r'.kC (by simp [Ch.ks])
  have n := hk r.kM (by simp [Ch.ks])
  have n' := hk r'.kM (by simp [Ch.ks])
  exact ⟨h.a.move (fun k hm => hk k (List.mem_append_left _ hm)) (fun _ x => x) (fun _ _ _ _ x => x), h.b.move (fun k hm => hk k (List.mem_append_right _ hm)) (fun _ x => x) (fun _ _ _ _ x => x), by rw [← c.1, ← c.2, ← c'.1, ← c'.2]; exact h.far, by rw [← n.1, ← n.2, ← n'.1, ← n'.2]; exact h.diff, h.below⟩
theorem CpK.grows (h : CpK TB l m W1 r r' L vs W) (hb : Below W.heap.size W W') : CpK TB l m W1 r r' L vs W' :=
  ⟨h.a.move (fun _ _ => ⟨rfl, rfl⟩) (fun _ x => x.below hb) (fun _ _ _ _ x => x.below hb), h.b.move (fun _ _ => ⟨rfl, rfl⟩) (fun _ x => x.below hb) (fun _ _ _ _ x => x.below hb), h.far, h.diff, h.below.trans (hb.mono h.below.size)⟩
theorem CpK.part : PartG (r.ks ++ r'.ks) (CpK TB l m W1 r r') := ⟨fun _ _ _ _ _ hk h => h.same hk, fun _ _ _ x h => h.grows (below_ext _ x)⟩
theorem CpK.init (hL : ∀ k ∈ r.ks ++ r'.ks, L.getD k true = false) : CpK TB l m W1 r r' L vs W1.drew := by
  have c := hL r.kC (by simp [Ch.ks])
  have c' := hL r'.kC (by simp [Ch.ks])
  have n := hL r.kM (by simp [Ch.ks])
  have n' := hL r'.kM (by simp [Ch.ks])
  have s := hL r.kS (by simp [Ch.ks])
  have s' := hL r'.kS (by simp [Ch.ks])
  refine ⟨⟨fun e => ?_, fun e => ?_, fun e => ?_⟩, ⟨fun e => ?_, fun e => ?_, fun e => ?_⟩, fun e => ?_, fun e => ?_, (Below.refl _ _).drew⟩
  · rw [c] at e; cases e
  · rw [n] at e; cases e
  · rw [s] at e; cases e
  · rw [c'] at e; cases e
  · rw [n'] at e; cases e
  · rw [s'] at e; cases e
  · rw [c] at e; cases e
  · rw [n] at e; cases e
def chOk (r r' : Ch) : Prop := [r.kC, r.kM, r.kS, r'.kC, r'.kM, r'.kS].Nodup
theorem CpK.stepC (h : CpK TB l m W1 r r' L vs W) (ok : chOk r r') (hi : r.kC < vs.length) (hun : L.getD r.kC true = false) {u : Value} (hr : Rows2 W.heap.size l m W' u) (hb : Below W.heap.size W W') : CpK TB l m W1 r r' (L.setIfInBounds r.kC true) (vs.set r.kC u) W' := by
  obtain ⟨⟨q1, q2, q3, q4, q5⟩, ⟨q6, q7, q8, q9⟩, ⟨q10, q11, q12⟩, ⟨q13, q14⟩, q15⟩ := ne_of_nodup6 ok
  have hS : L.getD r.kS true = false := by
    cases e : L.getD r.kS true
    · rfl
    · have := (h.a.ord e).1
      rw [hun] at this; cases this
  have h' := h.grows hb
  obtain ⟨u1, t1, e1, o1, o2, o3⟩ := hr
  refine ⟨⟨fun _ => ?_, fun e => ?_, fun e => ?_⟩, h'.b.move (fun k hk => ?_) (fun _ x => x) (fun _ _ _ _ x => x), fun _ e => ?_, ?_, h'.below⟩
  · rw [getD_set_self' hi]
    exact ⟨u1, t1, e1, own_mono o1 h.below.size, own_mono o2 h.below.size, o3⟩
  · rw [getD_other q1] at e
    obtain ⟨g, c0, c1, h1, h2, h3, -⟩ := h'.a.made e
    exact ⟨g, c0, c1, by rw [getD_set_other q1]; exact h1, h2, h3, fun e => by rw [getD_other q2, hS] at e; cases e⟩
  · rw [getD_other q2, hS] at e; cases e
  · simp only [Ch.ks, List.mem_cons, List.not_mem_nil, or_false] at hk
    rcases hk with rfl | rfl | rfl
    · exact set_ne q3 u
    · exact set_ne q4 u
    · exact set_ne q5 u
  · rw [getD_other q3] at e
    rw [getD_set_self' hi, getD_set_other q3]
    obtain ⟨u2, t2, e2, p1, p2, -⟩ := h.b.call e
    intro a b a' b' ea eb k hk
    rw [e1] at ea
    rw [e2] at eb
    cases ea
    cases eb
    have hge : W.heap.size ≤ k := by
      rcases hk with hk | hk
      · exact (o1.lt k hk).1
      · exact (o2.lt k hk).1
    exact ⟨fun e => by have := (p1.lt k e).2; omega, fun e => by have := (p2.lt k e).2; omega⟩
  · rw [getD_other q1, getD_other q4, getD_set_other q1, getD_set_other q4]
    exact h.diff
theorem CpK.stepM (h : CpK TB l m W1 r r' L vs W) (ok : chOk r r') (hi : r.kM < vs.length) (hun : L.getD r.kM true = false) {u : Value} (hu : u = .pointer (some ⟨W.heap.size, 0, none⟩)) {c0 c1 : Value} : CpK TB l m W1 r r' (L.setIfInBounds r.kM true) (vs.set r.kM u) (W.alloc (.cells #[c0, c1] TB)) := by
  obtain ⟨⟨q1, q2, q3, q4, q5⟩, ⟨q6, q7, q8, q9⟩, ⟨q10, q11, q12⟩, ⟨q13, q14⟩, q15⟩ := ne_of_nodup6 ok
  have hS : L.getD r.kS true = false := by
    cases e : L.getD r.kS true
    · rfl
    · have := (h.a.ord e).2
      rw [hun] at this; cases this
  have h' := h.grows (grow_alloc (.cells #[c0, c1] TB) (Below.refl _ _))
  refine ⟨⟨fun e => ?_, fun _ => ?_, fun e => ?_⟩, h'.b.move (fun k hk => ?_) (fun _ x => x) (fun _ _ _ _ x => x), fun e e' => ?_, fun _ e => ?_, h'.below⟩
  · rw [getD_other q1.symm] at e
    rw [getD_set_other q1.symm]
    exact h'.a.call e
  · exact ⟨W.heap.size, c0, c1, by rw [getD_set_self' hi]; exact hu, h.below.size, Blk.new _ _ _, fun e => by rw [getD_other q6, hS] at e; cases e⟩
  · rw [getD_other q6, hS] at e; cases e
  · simp only [Ch.ks, List.mem_cons, List.not_mem_nil, or_false] at hk
    rcases hk with rfl | rfl | rfl
    · exact set_ne q7 u
    · exact set_ne q8 u
    · exact set_ne q9 u
  · rw [getD_other q1.symm] at e
    rw [getD_other q7] at e'
    rw [getD_set_other q1.symm, getD_set_other q7]
    exact h.far e e'
  · rw [getD_other q8] at e
    rw [getD_set_self' hi, getD_set_other q8, hu]
    obtain ⟨g, _, _, h1, _, h3, _⟩ := h.b.made e
    rw [h1]
    intro q
    simp only [Value.pointer.injEq, Option.some.injEq, Addr.mk.injEq] at q
    have := h3.lt
    omega
theorem CpK.stepS (h : CpK TB l m W1 r r' L vs W) (ok : chOk r r') (hT : TB ≠ 28) (hC : L.getD r.kC true = true) (hM : L.getD r.kM true = true) {g : Nat} {cs : Array Value} {c0 c1 : Value} (hg : vs.getD r.kM undef = .pointer (some ⟨g, 0, none⟩)) (hb0 : Blk W g cs TB) (hge : W1.heap.size ≤ g) (hv : vs.getD r.kC undef = .agg #[c0, c1])
    (hoth : ∀ k, k ≠ g → W'.heap[k]? = W.heap[k]?) (hs : W'.heap.size = W.heap.size) (ho : W'.os = W.os) (ht : W'.tape = W.tape) (hp : W'.output = W.output) (hb : Blk W' g #[c0, c1] TB) : CpK TB l m W1 r r' (L.setIfInBounds r.kS true) vs W' := by
  obtain ⟨⟨q1, q2, q3, q4, q5⟩, ⟨q6, q7, q8, q9⟩, ⟨q10, q11, q12⟩, ⟨q13, q14⟩, q15⟩ := ne_of_nodup6 ok
  have s0 : ∀ {k : Nat}, r.kS ≠ k → L.getD k true = (L.setIfInBounds r.kS true).getD k true ∧ vs.getD k undef = vs.getD k undef := fun hk => ⟨(getD_other hk).symm, rfl⟩
  have hr : ∀ v, Rows2 W1.heap.size l m W v → Rows2 W1.heap.size l m W' v := fun v x => x.other hb0 hT hoth
  refine ⟨⟨fun _ => hr _ (h.a.call hC), fun _ => ⟨g, c0, c1, hg, hge, hb, fun _ => hv⟩, fun _ => ⟨by rw [getD_other q2.symm]; exact hC, by rw [getD_other q6.symm]; exact hM⟩⟩, h.b.move (fun k hk => ?_) hr (fun e g' e' cs hcs => hcs.of_block (hoth g' (fun q => h.diff hM e (by rw [hg, e', q])))), ?_, ?_, ⟨ho.trans h.below.os, ht.trans h.below.tape, hp.trans h.below.output, by rw [hs]; exact h.below.size, fun k hk => by rw [hoth k (by omega)]; exact h.below.block k hk⟩⟩
  · simp only [Ch.ks, List.mem_cons, List.not_mem_nil, or_false] at hk
    rcases hk with rfl | rfl | rfl
    · exact s0 q10
    · exact s0 q11
    · exact s0 q12
  · rw [getD_other q2.symm, getD_other q10]; exact h.far
  · rw [getD_other q6.symm, getD_other q11]; exact h.diff
end
end Go.Proofs.Ytafkibnkpcmmgaa
