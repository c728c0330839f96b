/- LaidK, LaidL, LaidM, LaidN, LaidO in one text. -/
import Derived.Test.YtafkibnkpcmmgaaLaidK3
import Derived.Test.YtafkibnkpcmmgaaYield
import Derived.RangeFuncBox
import Derived.Test.YtafkibnkpcmmgaaHull
import Derived.Test.YtafkibnkpcmmgaaBaseK
namespace Go.Proofs.Ytafkibnkpcmmgaa
open Go.RowKit
set_option maxRecDepth 20000

/-- Whatever cells lie, lie as they lay, and all below n₀. -/
structure KC (n₀ : Nat) (W W' : World) : Prop where
  below : Below n₀ W W'
  size : W.heap.size ≤ W'.heap.size
  cells : ∀ k : Nat, (∃ cs t fr, W.heap[k]? = some (.cells cs t fr)) → W'.heap[k]? = W.heap[k]?
theorem KC.trans {n₀ : Nat} {A B C : World} (h : KC n₀ A B) (k : KC n₀ B C) : KC n₀ A C :=
  ⟨h.below.trans k.below, Nat.le_trans h.size k.size, fun b ⟨cs, t, fr, hc⟩ => by
    have h1 := h.cells b ⟨cs, t, fr, hc⟩
    exact (k.cells b ⟨cs, t, fr, by rw [h1, hc]⟩).trans h1⟩
theorem KC.of_below {n₀ : Nat} {A B : World} (hn : n₀ ≤ A.heap.size) (h : Below A.heap.size A B) : KC n₀ A B :=
  ⟨h.mono hn, h.size, fun k ⟨_, _, _, hc⟩ => h.block k (Array.getElem?_eq_some_iff.1 hc).1⟩
theorem KC.cell {n₀ : Nat} {W W' : World} (h : KC n₀ W W') {a : Addr} {v : Value} (hc : W.cell? a = some v) : W'.cell? a = some v := by
  refine (World.cell?_of_block (h.cells a.block ?_)).trans hc
  unfold World.cell? at hc
  split at hc
  · rename_i cs t fr hh; exact ⟨_, _, _, hh⟩
  · cases hc
theorem KC.blk {n₀ : Nat} {W W' : World} (h : KC n₀ W W') {k : Nat} {cs : Array Value} {t : TypeId} (hb : Blk W k cs t) : Blk W' k cs t := hb.of_block (h.cells k ⟨_, _, _, hb⟩)
theorem KC.pts {n₀ : Nat} {W W' : World} (h : KC n₀ W W') {v : Value} {l : List Pt} (hp : Pts W v l) : Pts W' v l := by
  obtain ⟨a, cap, h1, h2, h3, h4⟩ := hp
  exact ⟨a, cap, h1, h2, h3, fun i hi => let ⟨b, off, e, p0, p1, p2⟩ := h4 i hi; ⟨b, off, e, h.cell p0, h.cell p1, h.cell p2⟩⟩

theorem ptCells_set (L : List Pt) (i : Nat) (hi : i < L.length) (p : Pt) : (((ptCells L).set (i * 3) (.int .i64 p.x)).set (i * 3 + 1) (.int .i64 p.y)).set (i * 3 + 2) (.int .i64 p.z) = ptCells (L.set i p) := by
  induction L generalizing i with
  | nil => simp at hi
  | cons a L ih =>
    cases i with
    | zero => simp [ptCells]
    | succ i =>
      have := ih i (by simpa using hi)
      rw [show (i + 1) * 3 = i * 3 + 1 + 1 + 1 by omega]
      simp only [ptCells, List.flatMap_cons, List.cons_append, List.nil_append, List.set_cons_succ]
      simp only [ptCells] at this
      rw [this]
theorem Blk.set_pt {W : World} {k : Nat} {L : List Pt} {t : TypeId} (h : Blk W k (ptCells L).toArray t) (i : Nat) (hi : i < L.length) (p : Pt) :
    Blk (((W.setCell ⟨k, i * 3, none⟩ (.int .i64 p.x)).setCell ⟨k, i * 3 + 1, none⟩ (.int .i64 p.y)).setCell ⟨k, i * 3 + 2, none⟩ (.int .i64 p.z)) k (ptCells (L.set i p)).toArray t := by
  have := ((h.set (i * 3) (.int .i64 p.x)).set (i * 3 + 1) (.int .i64 p.y)).set (i * 3 + 2) (.int .i64 p.z)
  rw [← ptCells_set L i hi p]
  simpa using this
theorem below_set3 {wb wx : World} {g : Nat} (h : Below wb.heap.size wb wx) (hg : g = wb.heap.size) (i j k : Nat) (a b c : Value) : Below wb.heap.size wb (((wx.setCell ⟨g, i, none⟩ a).setCell ⟨g, j, none⟩ b).setCell ⟨g, k, none⟩ c) :=
  ((h.setCell (p := ⟨g, i, none⟩) (by show _ ≤ g; omega) a).setCell (p := ⟨g, j, none⟩) (by show _ ≤ g; omega) b).setCell (p := ⟨g, k, none⟩) (by show _ ≤ g; omega) c
theorem Blk.other3 {w : World} {k g : Nat} {cs : Array Value} {t : TypeId} (h : Blk w k cs t) (hne : k ≠ g) (i j l : Nat) (a b c : Value) : Blk (((w.setCell ⟨g, i, none⟩ a).setCell ⟨g, j, none⟩ b).setCell ⟨g, l, none⟩ c) k cs t :=
  ((h.other (a := ⟨g, i, none⟩) hne a).other (a := ⟨g, j, none⟩) hne b).other (a := ⟨g, l, none⟩) hne c
def fillL (f : Pt → Pt) (T : List Pt) (i : Nat) : List Pt := (T.take i).map f ++ List.replicate (T.length - i) ⟨0, 0, 0⟩
theorem fillL_length (f : Pt → Pt) (T : List Pt) {i : Nat} (h : i ≤ T.length) : (fillL f T i).length = T.length := by
  unfold fillL
  rw [List.length_append, List.length_map, List.length_take, List.length_replicate]; omega
theorem fillL_set (f : Pt → Pt) (T : List Pt) {i : Nat} (h : i < T.length) : (fillL f T i).set i (f T[i]) = fillL f T (i + 1) := by
  unfold fillL
  rw [show T.length - i = (T.length - (i + 1)) + 1 by omega, List.replicate_succ, List.take_succ_eq_append_getElem h, List.map_append]
  have hl : ((T.take i).map f).length = i := by rw [List.length_map, List.length_take]; omega
  rw [List.set_append_right _ _ (by omega), hl, Nat.sub_self, List.set_cons_zero, List.append_assoc]
  rfl
theorem fillL_zero (f : Pt → Pt) (T : List Pt) : fillL f T 0 = List.replicate T.length ⟨0, 0, 0⟩ := by simp [fillL]
theorem fillL_all (f : Pt → Pt) (T : List Pt) : fillL f T T.length = T.map f := by simp [fillL]

theorem ptCells_zero (n : Nat) : ptCells (List.replicate n ⟨0, 0, 0⟩) = List.replicate (n * 3) (.int .i64 0) := by
  induction n with
  | zero => rfl
  | succ n ih =>
    rw [List.replicate_succ, show (n + 1) * 3 = n * 3 + 1 + 1 + 1 by omega]
    simp only [List.replicate_succ]
    rw [← ih]; rfl
theorem made_pts (n : Nat) : madeCells (Value.cells (.agg #[.int .i64 0, .int .i64 0, .int .i64 0])) (n * 3) = (ptCells (List.replicate n ⟨0, 0, 0⟩)).toArray := by
  rw [ptCells_zero]
  apply Array.ext
  · simp [madeCells]
  · intro i h1 h2
    simp only [madeCells, Array.getElem_map, Array.getElem_range, List.getElem_toArray, List.getElem_replicate]
    have : i % 3 = 0 ∨ i % 3 = 1 ∨ i % 3 = 2 := by omega
    have hs : (Value.cells (.agg #[.int .i64 0, .int .i64 0, .int .i64 0])) = #[.int .i64 0, .int .i64 0, .int .i64 0] := by simp [Value.cells]
    rw [hs]
    rcases this with h | h | h <;> simp [h]
theorem run_mkpts (n : Nat) (hn : n ≤ 1000) (w : World) : (Instr.makeSlice 119 (.int .i64 (n : Int)) (.int .i64 (n : Int))).run Try.prog w = .ok (.slice (some ⟨w.heap.size, 0, none⟩) n n) (w.alloc (.cells (ptCells (List.replicate n ⟨0, 0, 0⟩)).toArray 26)) := by
  obtain ⟨i0, hi, hz0, hz1, hz2⟩ := info_parts info_pt
  have := run_makeSlice (P := Try.prog) w 119 26 i0 _ Try.underlying119 hi hz0 .i64 .i64 (n : Int) (n : Int) (by omega) (Int.le_refl _) (by rw [hz1]; simp; omega) (by rw [hz2]; omega) (by omega)
  rw [hz1] at this
  simp only [Int.toNat_natCast] at this
  rw [made_pts] at this
  exact this

theorem place_take {rs : List Rn} (h : ∀ r ∈ rs, 1 ≤ r.count) {j : Int} (hj : 0 ≤ j) (k : Nat) : placeR rs (countS (rs.take k) + j) = placeR (rs.drop k) j := by
  induction rs generalizing k with
  | nil => simp [placeR]
  | cons r rs ih =>
    cases k with
    | zero => simp [countS]
    | succ k =>
      have hr := h r List.mem_cons_self
      have h0 : ∀ (l : List Rn), (∀ r ∈ l, 1 ≤ r.count) → 0 ≤ countS l := by
        intro l
        induction l with
        | nil => intro _; exact Int.le_refl _
        | cons a l ih => intro h; have h1 := h a List.mem_cons_self; have h2 := ih fun x hx => h x (List.mem_cons_of_mem _ hx); simp only [countS]; omega
      have hc := h0 (rs.take k) fun x hx => h x (List.mem_cons_of_mem _ (List.mem_of_mem_take hx))
      simp only [List.take_succ_cons, countS, List.drop_succ_cons, placeR]
      rw [if_neg (by omega), show r.count + countS (rs.take k) + j - r.count = countS (rs.take k) + j by omega]
      exact ih (fun x hx => h x (List.mem_cons_of_mem _ hx)) k

/-- The path of the k-th laid bar. -/
def pathI (bars : List Br) (rs : List Rn) (i : Int) : List Pt := match placeR rs i with | some (r, j) => laidL (barOf bars r.mark) r j | none => []

end Go.Proofs.Ytafkibnkpcmmgaa

namespace Go.Proofs.Ytafkibnkpcmmgaa
open Go.RowKit
set_option maxRecDepth 20000

theorem KC.putObj {n₀ : Nat} {A : World} {l : Nat} {o o' : Obj} (hn : n₀ ≤ l) (h : A.heap[l]? = some o) (hc : o.isCells = false) : KC n₀ A (A.putObj l o') :=
  ⟨(Below.refl n₀ A).grown (grownBy_putObj' A l o') (by have := (Array.getElem?_eq_some_iff.1 h).1; omega) (fun k e => by cases e; exact hn), (grownBy_putObj' A l o').size,
   fun k ⟨cs, t, fr, hk⟩ => (grownBy_putObj' A l o').block k (Array.getElem?_eq_some_iff.1 hk).1 (fun e => by cases e; rw [h] at hk; cases hk; cases hc)⟩

/-- How a round's body may be left: on, with the world as it was; by return. -/
def roundW (Ix : World → Prop) (I : World → Prop) (A : World) : Exit → Act → World → Prop
  | .normal, _, B => B = A ∧ I A
  | .ret, _, B => Ix B ∧ KeepsOthers A B
  | _, _, _ => False

theorem wpIn_range_w {P : Program} {n : Nat} {g : Operand} {ps : Array Tmp} {assign body : Code} {Q : Exit → Act → World → Prop} {a : Act} {w : World} {gf : Nat} {lb : Array Value}
    (hg : a.eval g = .func (.func gf) #[] lb) (eg : ∀ args w, (callFunc gf args).run P w = .ok (.enter gf args) w)
    (Ok : Int → Array Value → World → Prop) (N : Int) (Ix : World → Prop) (hOk : ∀ k args A B, Ok k args A → KC w.heap.size A B → Ok k args B) (hIx : ∀ A B, Ix A → KC w.heap.size A B → Ix B)
    (hseq : ∀ (ll : Nat) (J : Int → World → Prop) (Jx : World → Prop) (W : World), Below w.heap.size w W → (∀ k A B, J k A → Below A.heap.size A B → J k B) →
      (∀ k args A, 0 ≤ k → k < N → J k A → Below w.heap.size w A → Ok k args A → args.size = ps.size → YieldAt Fence.wide 0 P ll args A (fun e B => (e = .returned (.bool true) ∧ J (k + 1) B ∧ KC w.heap.size A B) ∨ (e = .returned (.bool false) ∧ Jx B))) → J 0 W →
      Calls P gf (#[.func (.yield ll) #[] #[]] ++ lb) W (fun e W' => (∃ v, e = .returned v) ∧ (J N W' ∨ Jx W')))
    (I : Int → World → Prop) (hI : ∀ k A B, I k A → KC w.heap.size A B → I k B) (h0 : I 0 w)
    (a₁ : Array Value → Act)
    (hassign : ∀ (ll : Nat) (k : Int) args (A : World) (K : Act → World → Prop), Ok k args A → K (a₁ args) A → assign.wpIn (Fence.wide.inRound ll) 0 P (Exit.then K (fun _ _ _ => False)) { tmps := (ps.zip args).foldl (fun t (p, v) => t.setIfInBounds p v) a.tmps, defers := [] } A)
    (hbody : ∀ (ll : Nat) (k : Int) args (A : World), 0 ≤ k → k < N → I k A → Ok k args A → body.wpIn (Fence.wide.inRound ll) 0 P (roundW Ix (I (k + 1)) A) (a₁ args) A)
    (hdone : ∀ W, I N W → Below w.heap.size w W → W.heap[w.heap.size]? = some (.deferred (some [])) → Q .normal { a with defers := { target := .collected w.heap.size, args := #[] } :: a.defers } W)
    (hstop : ∀ W, Ix W → W.heap[w.heap.size]? = some (.deferred (some [])) → Code.ret.wpIn Fence.wide n P Q { a with defers := { target := .collected w.heap.size, args := #[] } :: a.defers } W) :
    (Code.rangeFunc g ps assign body).wpIn Fence.wide n P Q a w := by
  refine wpIn_rangeFunc ?_
  intro fn _
  obtain ⟨rec, hrec⟩ : ∃ rec : LoopState → Option Code → Loop, rec = fun st pe => { state := st, pending := pe, fn, tmps := a.tmps, params := ps, assign, body, defers := w.heap.size } := ⟨_, rfl⟩
  obtain ⟨W1, hW1⟩ : ∃ W1, (w.alloc (.deferred (some []))).alloc (.loop (rec .ready none)) = W1 := ⟨_, rfl⟩
  have hb1 : Below w.heap.size w W1 := by rw [← hW1]; exact grow_alloc _ (grow_alloc _ (grow_refl w))
  have hD1 : W1.heap[w.heap.size]? = some (.deferred (some [])) := by
    rw [← hW1]
    exact (Below.heap_alloc _ _ _ (by simp)).trans (World.alloc_heap_new w _)
  have hL1 : W1.heap[w.heap.size + 1]? = some (.loop (rec .ready none)) := by
    rw [← hW1]
    have := World.alloc_heap_new (w.alloc (.deferred (some []))) (.loop (rec .ready none))
    rwa [World.size_alloc] at this
  refine ⟨w.heap.size + 1, [{ target := .collected w.heap.size, args := #[] }], W1, { target := .fn (.func gf) lb, args := #[.func (.yield (w.heap.size + 1)) #[] #[]] }, W1, gf, #[.func (.yield (w.heap.size + 1)) #[] #[]] ++ lb, W1,
    by rw [← hW1, hrec]; exact run_enterLoop_outer _ _ _ _ _, by simp only [resolve, hg]; simp [go_sem], fun _ _ => trivial, by simp [invoke, go_sem, eg], (fun h => nomatch h), ?_⟩
  refine callsIn_wide.2 ((hseq (w.heap.size + 1)
    (fun k W => I k W ∧ Below w.heap.size w W ∧ W.heap[w.heap.size + 1]? = some (.loop (rec .ready none)) ∧ W.heap[w.heap.size]? = some (.deferred (some [])))
    (fun W => Ix W ∧ W.heap[w.heap.size + 1]? = some (.loop (rec .done (some .ret))) ∧ W.heap[w.heap.size]? = some (.deferred (some [])))
    W1 hb1 ?_ ?_ ⟨hI _ _ _ h0 (KC.of_below (Nat.le_refl _) hb1), hb1, hL1, hD1⟩).mono ?_)
  · rintro k A B ⟨i1, i2, i3, i4⟩ hb
    have s := i2.size
    exact ⟨hI _ _ _ i1 (KC.of_below s hb), i2.trans (hb.mono s), (hb.block _ (Array.getElem?_eq_some_iff.1 i3).1).trans i3, (hb.block _ (Array.getElem?_eq_some_iff.1 i4).1).trans i4⟩
  · rintro k args A hk0 hkN ⟨i1, i2, i3, i4⟩ hbA hok hsz
    have hy := run_yield (P := P) (args := args) i3 (by rw [hrec]; exact hsz)
    rw [hrec] at hy
    refine ⟨fn, _, assign, body, hy, roundIn_of_wpIn trivial (hassign _ k args A _ hok ?_)⟩
    clear hy
    have hbr := run_beginRound (P := P) i3 (by rw [hrec])
    have hlt : w.heap.size + 1 < A.heap.size := (Array.getElem?_eq_some_iff.1 i3).1
    have kc : KC w.heap.size A (A.putObj (w.heap.size + 1) (.loop { rec .ready none with state := .busy })) := KC.putObj (by omega) i3 rfl
    refine ⟨_, hbr, ?_⟩
    have hl2 : (A.putObj (w.heap.size + 1) (.loop { rec .ready none with state := .busy })).heap[w.heap.size + 1]? = some (.loop { rec .ready none with state := .busy }) := World.putObj_heap_same hlt
    have hd2 : (A.putObj (w.heap.size + 1) (.loop { rec .ready none with state := .busy })).heap[w.heap.size]? = some (.deferred (some [])) := (World.putObj_heap_other (by omega)).trans i4
    have i5 := hI _ _ _ i1 kc
    have ok2 := hOk _ _ _ _ hok kc
    have b2 := hbA.trans kc.below
    generalize A.putObj (w.heap.size + 1) (.loop { rec .ready none with state := .busy }) = A2 at *
    refine wpIn_mono (hbody _ k args A2 hk0 hkN i5 ok2) ?_
    rintro e a3 B hp
    cases e with
    | normal =>
      obtain ⟨e0, hi⟩ : B = A2 ∧ I (k + 1) A2 := hp
      obtain rfl : B = A2 := e0
      have hr := run_endRound (P := P) none hl2
      have kc2 : KC w.heap.size B (B.putObj (w.heap.size + 1) (.loop (rec .ready none))) := KC.putObj (by omega) hl2 rfl
      rw [hrec] at hr
      refine ⟨_, _, hr, .inl ⟨rfl, ⟨hI _ _ _ hi ?_, ?_, ?_, ?_⟩, ?_⟩⟩
      · rw [hrec] at kc2; exact kc2
      · rw [hrec] at kc2; exact b2.trans kc2.below
      · rw [hrec]; exact World.putObj_heap_same (Array.getElem?_eq_some_iff.1 hl2).1
      · exact (World.putObj_heap_other (by omega)).trans hd2
      · rw [hrec] at kc2; exact kc.trans kc2
    | ret =>
      obtain ⟨hx, hko⟩ := hp
      have hl3 := hko.same _ _ hl2 rfl
      have hr := run_endRound (P := P) (some .ret) hl3
      have kc2 : KC w.heap.size B (B.putObj (w.heap.size + 1) (.loop (rec .done (some .ret)))) := KC.putObj (by omega) hl3 rfl
      rw [hrec] at hr
      refine ⟨_, _, hr, .inr ⟨rfl, hIx _ _ hx ?_, ?_, ?_⟩⟩
      · rw [hrec] at kc2; exact kc2
      · rw [hrec]; exact World.putObj_heap_same (Array.getElem?_eq_some_iff.1 hl3).1
      · exact (World.putObj_heap_other (by omega)).trans (hko.same _ _ hd2 rfl)
    | exit id => exact hp.elim
    | goto t => exact hp.elim
    | panic ch => exact hp.elim
    | outgrown => exact hp.elim
  · rintro e W2 ⟨⟨v, rfl⟩, (⟨i1, i2, i3, i4⟩ | ⟨i1, i3, i4⟩)⟩
    · have hr := run_endLoop (P := P) i3 (by rw [hrec]; simp)
      have kc2 : KC w.heap.size W2 (W2.putObj (w.heap.size + 1) (.loop { rec .ready none with state := .exhausted })) := KC.putObj (by omega) i3 rfl
      rw [hrec] at hr kc2
      exact ⟨none, _, hr, hdone _ (hI _ _ _ i1 kc2) (i2.trans kc2.below) ((World.putObj_heap_other (by omega)).trans i4)⟩
    · have hr := run_endLoop (P := P) i3 (by rw [hrec]; simp)
      have kc2 : KC w.heap.size W2 (W2.putObj (w.heap.size + 1) (.loop { rec .done (some .ret) with state := .exhausted })) := KC.putObj (by omega) i3 rfl
      rw [hrec] at hr kc2
      exact ⟨some .ret, _, hr, hstop _ (hIx _ _ i1 kc2) ((World.putObj_heap_other (by omega)).trans i4)⟩

end Go.Proofs.Ytafkibnkpcmmgaa

namespace Go.Proofs.Ytafkibnkpcmmgaa
open Go.RowKit
set_option maxRecDepth 20000
attribute [local go_sem] Oper.semAt_some

/-- A slice that reads as points, and an error number. -/
def RetPts (w : World) (l : List Pt) (err : Int) (e : Ending) (w' : World) : Prop := ∃ v, e = .returned (.tuple #[v, .int .i64 err]) ∧ Pts w' v l ∧ ∃ x, w' = ext w x
theorem pts_nil (w : World) : Pts w (.slice none 0 0) [] := ⟨none, 0, rfl, Nat.le_refl _, by decide, fun i hi => absurd hi (Nat.not_lt_zero _)⟩
def pathE (l : List Br) (rs : List Rn) (i : Int) : List Pt × Int := if laidB l rs = true then (if 0 ≤ i ∧ i < countS rs then (pathI l rs i, 0) else ([], 2)) else ([], 1)

theorem Pts.setOther {W : World} {g n c : Nat} {l : List Pt} (h : Pts W (.slice (some ⟨g, 0, none⟩) n c) l) {a : Addr} (hne : a.block ≠ g) (u : Value) : Pts (W.setCell a u) (.slice (some ⟨g, 0, none⟩) n c) l := by
  obtain ⟨a', cap, e, h2, h3, h4⟩ := h
  cases e
  have hc : ∀ i v, W.cell? ⟨g, i, none⟩ = some v → (W.setCell a u).cell? ⟨g, i, none⟩ = some v := fun i v hv => (World.cell?_of_block (a := ⟨g, i, none⟩) (Below.heap_setCell W a u g (Ne.symm hne))).trans hv
  refine ⟨_, _, rfl, h2, h3, fun i hi => ?_⟩
  obtain ⟨b, off, eb, p0, p1, p2⟩ := h4 i hi
  cases eb
  exact ⟨g, 0, rfl, hc _ _ p0, hc _ _ p1, hc _ _ p2⟩
/-- What holds before each round of laid.path. -/
structure PathInv (w : World) (i k : Int) (B : World) : Prop where
  below : Below w.heap.size w B
  num : B.cell? ⟨w.heap.size, 0, none⟩ = some (.int .i64 i)
  res : Blk B (w.heap.size + 1) #[.slice none 0 0] 119
  err : Blk B (w.heap.size + 1 + 1) #[.int .i64 0] 36
  none : ¬ (0 ≤ i ∧ i < k)

end Go.Proofs.Ytafkibnkpcmmgaa

namespace Go.Proofs.Ytafkibnkpcmmgaa
open Go.RowKit
set_option maxRecDepth 20000

theorem between {a s j c m : Int} (h0 : -m ≤ a ∧ a ≤ m) (h1 : -m ≤ a + c * s ∧ a + c * s ≤ m) (hj : 0 ≤ j ∧ j ≤ c) : -m ≤ a + j * s ∧ a + j * s ≤ m := by
  rcases Int.le_total 0 s with hs | hs
  · have p1 : 0 ≤ j * s := Int.mul_nonneg hj.1 hs
    have p2 : j * s ≤ c * s := Int.mul_le_mul_of_nonneg_right hj.2 hs
    omega
  · have p1 : j * s ≤ 0 := Int.mul_nonpos_of_nonneg_of_nonpos hj.1 hs
    have p2 : c * s ≤ j * s := Int.mul_le_mul_of_nonpos_right hj.2 hs
    omega
theorem placeR_some {l : List Br} {rs : List Rn} (h : ∀ r ∈ rs, runB l r = true) {i : Int} (h0 : 0 ≤ i) (hi : i < countS rs) : ∃ r j, placeR rs i = some (r, j) ∧ r ∈ rs ∧ 0 ≤ j ∧ j < r.count := by
  induction rs generalizing i with
  | nil => simp only [countS] at hi; omega
  | cons r rs ih =>
    simp only [placeR]
    by_cases hlt : i < r.count
    · rw [if_pos hlt]; exact ⟨r, i, rfl, List.mem_cons_self, h0, hlt⟩
    · rw [if_neg hlt]
      simp only [countS] at hi
      obtain ⟨r', j, e, hm, hj⟩ := ih (fun x hx => h x (List.mem_cons_of_mem _ hx)) (i := i - r.count) (by omega) (by omega)
      exact ⟨r', j, e, List.mem_cons_of_mem _ hm, hj⟩
theorem laidL_near {l : List Br} {r : Rn} (h : runB l r = true) {j : Int} (h0 : 0 ≤ j) (hj : j < r.count) : ∀ p ∈ laidL (barOf l r.mark) r j, NearP p 1048576 := by
  rw [runB_eq] at h
  simp only [Bool.and_eq_true] at h
  obtain ⟨_, _, h3, h4⟩ := h
  rw [List.all_eq_true] at h3 h4
  intro p hp
  unfold laidL at hp h3 h4
  obtain ⟨q, hq, rfl⟩ := List.mem_map.1 hp
  obtain ⟨a1, a2, a3⟩ := near_iff.1 (h3 _ (List.mem_map.2 ⟨q, hq, rfl⟩))
  obtain ⟨b1, b2, b3⟩ := near_iff.1 (h4 _ (List.mem_map.2 ⟨q, hq, rfl⟩))
  unfold laidP at *
  simp only [Int.zero_mul, Int.add_zero] at a1 a2 a3 b1 b2 b3 ⊢
  have hc : 0 ≤ j ∧ j ≤ r.count - 1 := by omega
  exact ⟨between a1 b1 hc, between a2 b2 hc, between a3 b3 hc⟩
theorem pathI_near {l : List Br} {rs : List Rn} (h : laidB l rs = true) {i : Int} (h0 : 0 ≤ i) (hi : i < countS rs) : ∀ p ∈ pathI l rs i, NearP p 1048576 := by
  obtain ⟨r, j, e, hm, hj0, hj⟩ := placeR_some (laidB_iff.1 h).2.2.1 h0 hi
  unfold pathI
  rw [e]
  exact laidL_near ((laidB_iff.1 h).2.2.1 r hm) hj0 hj
theorem pathI_len (l : List Br) (rs : List Rn) (i : Int) : (pathI l rs i).length ≤ 7 := by
  unfold pathI
  split
  · unfold laidL; rw [List.length_map]; exact (path_len _).2
  · exact Nat.zero_le _

def ptB (p : Pt) : Bx := ⟨p.x, p.y, p.z, p.x, p.y, p.z⟩
def legB (p q : Pt) : Bx := ⟨min p.x q.x, min p.y q.y, min p.z q.z, max p.x q.x, max p.y q.y, max p.z q.z⟩
/-- The legs of a path. -/
def legsP : List Pt → List Bx
  | p :: q :: l => legB p q :: legsP (q :: l)
  | _ => []
theorem legsP_snoc (l : List Pt) (p q : Pt) : legsP (l ++ [p, q]) = legsP (l ++ [p]) ++ [legB p q] := by
  induction l with
  | nil => rfl
  | cons a l ih =>
    cases l with
    | nil => rfl
    | cons b l =>
      simp only [List.cons_append, legsP] at ih ⊢
      rw [ih]
theorem legsP_take {l : List Pt} {k : Nat} (h1 : 1 ≤ k) (hk : k < l.length) : legsP (l.take (k + 1)) = legsP (l.take k) ++ [legB (l[k - 1]'(by omega)) l[k]] := by
  obtain ⟨j, rfl⟩ : ∃ j, k = j + 1 := ⟨k - 1, by omega⟩
  rw [List.take_succ_eq_append_getElem hk, List.take_succ_eq_append_getElem (i := j) (by omega), List.append_assoc]
  simp only [List.cons_append, List.nil_append, Nat.add_sub_cancel]
  exact legsP_snoc _ _ _
theorem legsP_len (l : List Pt) : (legsP l).length = l.length - 1 := by
  induction l with
  | nil => rfl
  | cons a l ih =>
    cases l with
    | nil => rfl
    | cons b l => simp only [legsP, List.length_cons] at ih ⊢; omega
theorem ptB_valid {p : Pt} (h : NearP p 1048576) : validB (ptB p) = true := by
  obtain ⟨h1, h2, h3⟩ := h
  rw [valid_iff]; unfold ptB; simp only; omega
theorem hull_two {p q : Pt} (hp : NearP p 1048576) (hq : NearP q 1048576) : hullR [ptB p, ptB q] = (legB p q, 0) := by
  unfold hullR
  simp only [List.all_cons, List.all_nil, ptB_valid hp, ptB_valid hq, Bool.and_true, if_true]
  simp [hullX, joinX, ptB, legB]
def legsI (l : List Br) (rs : List Rn) (i : Int) : List Bx := legsP (pathI l rs i)

theorem own_bxs {W : World} {M : Nat} {e : TypeId} {v : Value} {n : Nat} {l : List Bx} {b : Bx} (h : W.ownsRow M e 6 v (n + 1) (boxCells l ++ boxCells [b])) (hn : n = l.length) : W.ownsRow M e 6 v (l ++ [b]).length (boxCells (l ++ [b])) := by
  subst hn
  rw [boxCells_append, List.length_append]; exact h

theorem ext_grown2 {w A B : World} {row : Option Nat} (h : Below w.heap.size w A) (hg : A.grownBy B row) (hr : ∀ j, row = some j → w.heap.size ≤ j) : ∃ y, B = ext w y := ext_of (h.grown hg h.size hr)

end Go.Proofs.Ytafkibnkpcmmgaa

namespace Go.Proofs.Ytafkibnkpcmmgaa
open Go.RowKit
set_option maxRecDepth 20000

def legsE (l : List Br) (rs : List Rn) (i : Int) : List Bx × Int := if laidB l rs = true then (if 0 ≤ i ∧ i < countS rs then (legsI l rs i, 0) else ([], 2)) else ([], 1)
/-- A slice of boxes of the call's own, and an error number. -/
def RetBxs (w : World) (l : List Bx) (err : Int) (e : Ending) (w' : World) : Prop :=
  ∃ v, e = .returned (.tuple #[v, .int .i64 err]) ∧ w'.ownsRow w.heap.size 28 6 v l.length (boxCells l) ∧ ∃ x, w' = ext w x

end Go.Proofs.Ytafkibnkpcmmgaa

