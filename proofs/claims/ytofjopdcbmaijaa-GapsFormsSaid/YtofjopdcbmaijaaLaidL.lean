/- A range over a function whose rounds leave the world as it is until one of them returns; the path of a laid bar: laid.path. -/
import Derived.Test.YtofjopdcbmaijaaLaidK
import Derived.RangeFuncBox
namespace Go.Proofs.Ytofjopdcbmaijaa
open Go.RowKit
set_option maxRecDepth 20000

theorem KC.putObj {n₀ : Nat} {A : World} {l : Nat} {o o' : Obj} (hn : n₀ ≤ l) (h : A.heap[l]? = some o) (hc : o.isCells = false) : KC n₀ A (A.putObj l o') :=
  ⟨(Below.refl n₀ A).grown (grownBy_putObj' A l o') (by have := (Array.getElem?_eq_some_iff.1 h).1; omega) (fun k e => by cases e; exact hn), (grownBy_putObj' A l o').size,
   fun k ⟨cs, t, fr, hk⟩ => (grownBy_putObj' A l o').block k (Array.getElem?_eq_some_iff.1 hk).1 (fun e => by cases e; rw [h] at hk; cases hk; cases hc)⟩

/-- How a round's body may be left: on, with the world as it was; by return. -/
def roundW (Ix : World → Prop) (I : World → Prop) (A : World) : Exit → Act → World → Prop
  | .normal, _, B => B = A ∧ I A
  | .ret, _, B => Ix B ∧ KeepsOthers A B
  | _, _, _ => False

theorem wpIn_range_w {P : Program} {n : Nat} {g : Operand} {ps : Array Tmp} {assign body : Code} {Q : Exit → Act → World → Prop} {a : Act} {w : World} {gf : Nat} {lb : Array Value}
    (hg : a.eval g = .func (.func gf) #[] lb) (eg : ∀ args w, (callFunc gf args).run P w = .ok (.enter gf args) w)
    (Ok : Int → Array Value → World → Prop) (N : Int) (Ix : World → Prop) (hOk : ∀ k args A B, Ok k args A → KC w.heap.size A B → Ok k args B) (hIx : ∀ A B, Ix A → KC w.heap.size A B → Ix B)
    (hseq : ∀ (ll : Nat) (J : Int → World → Prop) (Jx : World → Prop) (W : World), Below w.heap.size w W → (∀ k A B, J k A → Below A.heap.size A B → J k B) →
      (∀ k args A, 0 ≤ k → k < N → J k A → Below w.heap.size w A → Ok k args A → args.size = ps.size → YieldAt Fence.wide 0 P ll args A (fun e B => (e = .returned (.bool true) ∧ J (k + 1) B ∧ KC w.heap.size A B) ∨ (e = .returned (.bool false) ∧ Jx B))) → J 0 W →
      Calls P gf (#[.func (.yield ll) #[] #[]] ++ lb) W (fun e W' => (∃ v, e = .returned v) ∧ (J N W' ∨ Jx W')))
    (I : Int → World → Prop) (hI : ∀ k A B, I k A → KC w.heap.size A B → I k B) (h0 : I 0 w)
    (a₁ : Array Value → Act)
    (hassign : ∀ (ll : Nat) (k : Int) args (A : World) (K : Act → World → Prop), Ok k args A → K (a₁ args) A → assign.wpIn (Fence.wide.inRound ll) 0 P (Exit.then K (fun _ _ _ => False)) { tmps := (ps.zip args).foldl (fun t (p, v) => t.setIfInBounds p v) a.tmps, defers := [] } A)
    (hbody : ∀ (ll : Nat) (k : Int) args (A : World), 0 ≤ k → k < N → I k A → Ok k args A → body.wpIn (Fence.wide.inRound ll) 0 P (roundW Ix (I (k + 1)) A) (a₁ args) A)
    (hdone : ∀ W, I N W → Below w.heap.size w W → W.heap[w.heap.size]? = some (.deferred (some [])) → Q .normal { a with defers := { target := .collected w.heap.size, args := #[] } :: a.defers } W)
    (hstop : ∀ W, Ix W → W.heap[w.heap.size]? = some (.deferred (some [])) → Code.ret.wpIn Fence.wide n P Q { a with defers := { target := .collected w.heap.size, args := #[] } :: a.defers } W) :
    (Code.rangeFunc g ps assign body).wpIn Fence.wide n P Q a w := by
  refine wpIn_rangeFunc ?_
  intro fn _
  obtain ⟨rec, hrec⟩ : ∃ rec : LoopState → Option Code → Loop, rec = fun st pe => { state := st, pending := pe, fn, tmps := a.tmps, params := ps, assign, body, defers := w.heap.size } := ⟨_, rfl⟩
  obtain ⟨W1, hW1⟩ : ∃ W1, (w.alloc (.deferred (some []))).alloc (.loop (rec .ready none)) = W1 := ⟨_, rfl⟩
  have hb1 : Below w.heap.size w W1 := by rw [← hW1]; exact grow_alloc _ (grow_alloc _ (grow_refl w))
  have hD1 : W1.heap[w.heap.size]? = some (.deferred (some [])) := by
    rw [← hW1]
    exact (Below.heap_alloc _ _ _ (by simp)).trans (World.alloc_heap_new w _)
  have hL1 : W1.heap[w.heap.size + 1]? = some (.loop (rec .ready none)) := by
    rw [← hW1]
    have := World.alloc_heap_new (w.alloc (.deferred (some []))) (.loop (rec .ready none))
    rwa [World.size_alloc] at this
  refine ⟨w.heap.size + 1, [{ target := .collected w.heap.size, args := #[] }], W1, { target := .fn (.func gf) lb, args := #[.func (.yield (w.heap.size + 1)) #[] #[]] }, W1, gf, #[.func (.yield (w.heap.size + 1)) #[] #[]] ++ lb, W1,
    by rw [← hW1, hrec]; exact run_enterLoop_outer _ _ _ _ _, by simp only [resolve, hg]; simp [go_sem], fun _ _ => trivial, by simp [invoke, go_sem, eg], (fun h => nomatch h), ?_⟩
  refine callsIn_wide.2 ((hseq (w.heap.size + 1)
    (fun k W => I k W ∧ Below w.heap.size w W ∧ W.heap[w.heap.size + 1]? = some (.loop (rec .ready none)) ∧ W.heap[w.heap.size]? = some (.deferred (some [])))
    (fun W => Ix W ∧ W.heap[w.heap.size + 1]? = some (.loop (rec .done (some .ret))) ∧ W.heap[w.heap.size]? = some (.deferred (some [])))
    W1 hb1 ?_ ?_ ⟨hI _ _ _ h0 (KC.of_below (Nat.le_refl _) hb1), hb1, hL1, hD1⟩).mono ?_)
  · rintro k A B ⟨i1, i2, i3, i4⟩ hb
    have s := i2.size
    exact ⟨hI _ _ _ i1 (KC.of_below s hb), i2.trans (hb.mono s), (hb.block _ (Array.getElem?_eq_some_iff.1 i3).1).trans i3, (hb.block _ (Array.getElem?_eq_some_iff.1 i4).1).trans i4⟩
  · rintro k args A hk0 hkN ⟨i1, i2, i3, i4⟩ hbA hok hsz
    have hy := run_yield (P := P) (args := args) i3 (by rw [hrec]; exact hsz)
    rw [hrec] at hy
    refine ⟨fn, _, assign, body, hy, roundIn_of_wpIn trivial (hassign _ k args A _ hok ?_)⟩
    clear hy
    have hbr := run_beginRound (P := P) i3 (by rw [hrec])
    have hlt : w.heap.size + 1 < A.heap.size := (Array.getElem?_eq_some_iff.1 i3).1
    have kc : KC w.heap.size A (A.putObj (w.heap.size + 1) (.loop { rec .ready none with state := .busy })) := KC.putObj (by omega) i3 rfl
    refine ⟨_, hbr, ?_⟩
    have hl2 : (A.putObj (w.heap.size + 1) (.loop { rec .ready none with state := .busy })).heap[w.heap.size + 1]? = some (.loop { rec .ready none with state := .busy }) := World.putObj_heap_same hlt
    have hd2 : (A.putObj (w.heap.size + 1) (.loop { rec .ready none with state := .busy })).heap[w.heap.size]? = some (.deferred (some [])) := (World.putObj_heap_other (by omega)).trans i4
    have i5 := hI _ _ _ i1 kc
    have ok2 := hOk _ _ _ _ hok kc
    have b2 := hbA.trans kc.below
    generalize A.putObj (w.heap.size + 1) (.loop { rec .ready none with state := .busy }) = A2 at *
    refine wpIn_mono (hbody _ k args A2 hk0 hkN i5 ok2) ?_
    rintro e a3 B hp
    cases e with
    | normal =>
      obtain ⟨e0, hi⟩ : B = A2 ∧ I (k + 1) A2 := hp
      obtain rfl : B = A2 := e0
      have hr := run_endRound (P := P) none hl2
      have kc2 : KC w.heap.size B (B.putObj (w.heap.size + 1) (.loop (rec .ready none))) := KC.putObj (by omega) hl2 rfl
      rw [hrec] at hr
      refine ⟨_, _, hr, .inl ⟨rfl, ⟨hI _ _ _ hi ?_, ?_, ?_, ?_⟩, ?_⟩⟩
      · rw [hrec] at kc2; exact kc2
      · rw [hrec] at kc2; exact b2.trans kc2.below
      · rw [hrec]; exact World.putObj_heap_same (Array.getElem?_eq_some_iff.1 hl2).1
      · exact (World.putObj_heap_other (by omega)).trans hd2
      · rw [hrec] at kc2; exact kc.trans kc2
    | ret =>
      obtain ⟨hx, hko⟩ := hp
      have hl3 := hko.same _ _ hl2 rfl
      have hr := run_endRound (P := P) (some .ret) hl3
      have kc2 : KC w.heap.size B (B.putObj (w.heap.size + 1) (.loop (rec .done (some .ret)))) := KC.putObj (by omega) hl3 rfl
      rw [hrec] at hr
      refine ⟨_, _, hr, .inr ⟨rfl, hIx _ _ hx ?_, ?_, ?_⟩⟩
      · rw [hrec] at kc2; exact kc2
      · rw [hrec]; exact World.putObj_heap_same (Array.getElem?_eq_some_iff.1 hl3).1
      · exact (World.putObj_heap_other (by omega)).trans (hko.same _ _ hd2 rfl)
    | exit id => exact hp.elim
    | goto t => exact hp.elim
    | panic ch => exact hp.elim
    | outgrown => exact hp.elim
  · rintro e W2 ⟨⟨v, rfl⟩, (⟨i1, i2, i3, i4⟩ | ⟨i1, i3, i4⟩)⟩
    · have hr := run_endLoop (P := P) i3 (by rw [hrec]; simp)
      have kc2 : KC w.heap.size W2 (W2.putObj (w.heap.size + 1) (.loop { rec .ready none with state := .exhausted })) := KC.putObj (by omega) i3 rfl
      rw [hrec] at hr kc2
      exact ⟨none, _, hr, hdone _ (hI _ _ _ i1 kc2) (i2.trans kc2.below) ((World.putObj_heap_other (by omega)).trans i4)⟩
    · have hr := run_endLoop (P := P) i3 (by rw [hrec]; simp)
      have kc2 : KC w.heap.size W2 (W2.putObj (w.heap.size + 1) (.loop { rec .done (some .ret) with state := .exhausted })) := KC.putObj (by omega) i3 rfl
      rw [hrec] at hr kc2
      exact ⟨some .ret, _, hr, hstop _ (hIx _ _ i1 kc2) ((World.putObj_heap_other (by omega)).trans i4)⟩

end Go.Proofs.Ytofjopdcbmaijaa
