/- InvJ, InvM in one text. -/
import Derived.Test.YtmhhohancconaaaGreatRefLK4
import Derived.Test.YtmhhohancconaaaGreatBaseK
namespace Go.Proofs.YtmhhohancconaaaGreat
open Go Go.RowKit
set_option maxRecDepth 20000
section
variable {P : Program}

/-- The frame with what the operations have written. -/
def putAll : List Oper → List Value → Act → Act
  | o :: l, v :: vs, a => putAll l vs (a.put o.dst v)
  | _, _, a => a
theorem putAll_cons (o : Oper) (l : List Oper) (v : Value) (vs : List Value) (a : Act) : putAll (o :: l) (v :: vs) a = putAll l vs (a.put o.dst v) := rfl
theorem putAll_nil (a : Act) : putAll [] [] a = a := rfl
theorem put_some (t : Array Value) (d : List Deferred) (k : Nat) (v : Value) : (Act.mk t d).put (some k) v = ⟨t.setIfInBounds k v, d⟩ := rfl
theorem put_none (a : Act) (v : Value) : a.put none v = a := rfl
/-- What the operations' slots hold. -/
def slotOf (a : Act) (o : Oper) : Value := match o.dst with | some d => a.tmps.getD d undef | none => undef
theorem put_slot (a : Act) (o : Oper) : a.put o.dst (slotOf a o) = a := by
  unfold slotOf
  cases o.dst with
  | none => rfl
  | some d =>
    obtain ⟨t, ds⟩ := a
    rw [put_some]
    congr 1
    apply Array.ext_getElem?
    intro k
    rw [Array.getElem?_setIfInBounds]
    by_cases h : d = k
    · subst h
      rw [if_pos rfl]
      by_cases hd : d < t.size
      · rw [if_pos hd, Array.getElem?_eq_getElem hd]
        simp [Array.getD, hd]
      · rw [if_neg hd, Array.getElem?_eq_none (Nat.le_of_not_lt hd)]
    · rw [if_neg h]
theorem putAll_slots (l : List Oper) (a : Act) : putAll l (l.map (slotOf a)) a = a := by
  induction l with
  | nil => rfl
  | cons o l ih => rw [List.map_cons, putAll_cons, put_slot, ih]
theorem len_cons {α : Type} {l : List α} {n : Nat} (h : l.length = n + 1) : ∃ a t, l = a :: t ∧ t.length = n := by
  cases l with
  | nil => cases h
  | cons a t => exact ⟨a, t, rfl, by simpa using h⟩
theorem len_nil {α : Type} {l : List α} (h : l.length = 0) : l = [] := List.eq_nil_of_length_eq_zero h

theorem getD_upJ {L : Array Bool} {j : Nat} (h : L.getD j false = true) : L.getD j true = true := by
  unfold Array.getD at h ⊢
  by_cases hj : j < L.size
  · simp only [hj, dite_true] at h ⊢; exact h
  · simp [hj] at h
theorem getD_self {L : Array Bool} {i : Nat} : (L.setIfInBounds i true).getD i true = true := by
  unfold Array.getD
  by_cases h : i < (L.setIfInBounds i true).size
  · simp only [h, dite_true]; simp
  · simp only [h, dite_false]
theorem getD_other {L : Array Bool} {i j : Nat} (h : i ≠ j) : (L.setIfInBounds i true).getD j true = L.getD j true := getD_set_ne true h

theorem fill3 {cs : Array Value} {a b c : Value} (h : cs.size = (#[a, b, c] : Array Value).size) : ((cs.setIfInBounds 0 a).setIfInBounds 1 b).setIfInBounds 2 c = #[a, b, c] := by
  rcases cs with ⟨l⟩
  have h' : l.length = 3 := h
  match l, h' with
  | [_, _, _], _ => rfl
theorem fill2 {cs : Array Value} {a b : Value} (h : cs.size = (#[a, b] : Array Value).size) : (cs.setIfInBounds 0 a).setIfInBounds 1 b = #[a, b] := by
  rcases cs with ⟨l⟩
  have h' : l.length = 2 := h
  match l, h' with
  | [_, _], _ => rfl

/-- ka: the operation that makes the block, ks: the one that fills it. -/
structure InvJ (V : List Value) (ka ks : Nat) (T : TypeId) (fin : Array Value) (w0 : World) (vs : List Value) (L : Array Bool) (W : World) : Prop where
  below : Below w0.heap.size w0 W
  val : ∀ i, i < vs.length → i ≠ ka → i ≠ ks → L.getD i true = true → vs.getD i undef = V.getD i undef
  made : L.getD ka true = true → ∃ g, vs.getD ka undef = .pointer (some ⟨g, 0, none⟩) ∧ w0.heap.size ≤ g ∧ ∃ cs : Array Value, cs.size = fin.size ∧ Blk W g cs T ∧ (L.getD ks true = true → cs = fin)
  late : L.getD ks true = true → L.getD ka true = true
variable {V : List Value} {ka ks : Nat} {T : TypeId} {fin : Array Value} {w0 W : World} {vs : List Value} {L : Array Bool}
theorem InvJ.grow (h : InvJ V ka ks T fin w0 vs L W) (x : World) : InvJ V ka ks T fin w0 vs L (ext W x) where
  below := grow_ext _ h.below
  val := h.val
  made := fun e => let ⟨g, h1, h2, cs, h3, hb, hc⟩ := h.made e; ⟨g, h1, h2, cs, h3, hb.ext x, hc⟩
  late := h.late
theorem InvJ.grows (h : InvJ V ka ks T fin w0 vs L W) {W' : World} (hb : Below W.heap.size W W') : InvJ V ka ks T fin w0 vs L W' := by
  obtain ⟨x, rfl⟩ := ext_of hb
  exact h.grow x
theorem InvJ.up (h : InvJ V ka ks T fin w0 vs L W) (i : Nat) (ha : i ≠ ka) (hs : i ≠ ks) (hi : i < vs.length) {u : Value} (hu : u = V.getD i undef) : InvJ V ka ks T fin w0 (vs.set i u) (L.setIfInBounds i true) W where
  below := h.below
  val := fun j jl j1 j2 hj => by
    rw [List.length_set] at jl
    by_cases hij : i = j
    · subst hij
      rw [List.getD_eq_getElem?_getD, List.getElem?_set_self hi, hu]; rfl
    · rw [getD_other hij] at hj
      rw [List.getD_eq_getElem?_getD, List.getElem?_set_ne hij, ← List.getD_eq_getElem?_getD]
      exact h.val j jl j1 j2 hj
  made := fun e => by
    rw [getD_other ha] at e
    obtain ⟨g, h1, h2, cs, h3, hb, hc⟩ := h.made e
    refine ⟨g, ?_, h2, cs, h3, hb, fun e2 => hc (by rwa [getD_other hs] at e2)⟩
    rw [List.getD_eq_getElem?_getD, List.getElem?_set_ne ha, ← List.getD_eq_getElem?_getD]
    exact h1
  late := fun e => by rw [getD_other hs] at e; rw [getD_other ha]; exact h.late e
theorem InvJ.make (h : InvJ V ka ks T fin w0 vs L W) (hi : ka < vs.length) (hne : ka ≠ ks) (hun : L.getD ka true = false) (cs : Array Value) (hcs : cs.size = fin.size) {u : Value} (hu : u = .pointer (some ⟨W.heap.size, 0, none⟩)) : InvJ V ka ks T fin w0 (vs.set ka u) (L.setIfInBounds ka true) (W.alloc (.cells cs T)) where
  below := grow_alloc _ h.below
  val := fun j jl j1 j2 hj => by
    rw [List.length_set] at jl
    rw [getD_other (fun e => j1 e.symm)] at hj
    rw [List.getD_eq_getElem?_getD, List.getElem?_set_ne (fun e => j1 e.symm), ← List.getD_eq_getElem?_getD]
    exact h.val j jl j1 j2 hj
  made := fun _ => ⟨W.heap.size, by rw [List.getD_eq_getElem?_getD, List.getElem?_set_self hi, hu]; rfl, h.below.size, cs, hcs, Blk.new _ _ _, fun e2 => by
    rw [getD_other hne] at e2
    have := h.late e2
    rw [hun] at this; cases this⟩
  late := fun _ => getD_self
theorem InvJ.fill (h : InvJ V ka ks T fin w0 vs L W) (hne : ka ≠ ks) (hl : L.getD ka true = true) {g : Nat} (hs : vs.getD ka undef = .pointer (some ⟨g, 0, none⟩)) (hg : w0.heap.size ≤ g) {W' : World} (hb : Below w0.heap.size w0 W') (hk : Blk W' g fin T) : InvJ V ka ks T fin w0 vs (L.setIfInBounds ks true) W' where
  below := hb
  val := fun j jl j1 j2 hj => h.val j jl j1 j2 (by rwa [getD_other (fun e => j2 e.symm)] at hj)
  made := fun _ => ⟨g, hs, hg, _, rfl, hk, fun _ => rfl⟩
  late := fun _ => by rw [getD_other (fun e => hne e.symm)]; exact hl

/-- A walk over one operation whose end stands behind a name. -/
theorem wpOp_free {ops : Array Oper} {Q : Exit → Act → World → Prop} {i : Nat} {a : Act} {w : World} {B K0 : Act → World → Prop} (hB : ∀ a w, B a w → K0 a w) (h : ∀ K : Act → World → Prop, RowKit.Hid (∀ a w, B a w → K a w) → wpOp P ops Q i K a w) : wpOp P ops Q i K0 a w := h K0 (Lib.hid hB)

theorem wp_region_J {id : Nat} {Q : Exit → Act → World → Prop} {a : Act} {w : World} {l : List Oper} (V : List Value) (ka ks : Nat) (T : TypeId) (fin : Array Value) (hm : P.follows .mixedOrders = true) (hf : forwardB .any l.toArray = true)
    (hka : ka < l.length) (hks : ks < l.length)
    (hstep : ∀ L vs W i, vs.length = l.length → InvJ V ka ks T fin w vs L W → i ∈ Region.ready .any l.toArray L → wpOp P l.toArray Q i (fun a' W' => ∃ vs', vs'.length = l.length ∧ a' = putAll l vs' a ∧ InvJ V ka ks T fin w vs' (L.setIfInBounds i true) W') (putAll l vs a) W)
    (hend : ∀ vs g W, vs.length = l.length → Below w.heap.size w W → (∀ i, i < l.length → i ≠ ka → i ≠ ks → vs.getD i undef = V.getD i undef) → vs.getD ka undef = .pointer (some ⟨g, 0, none⟩) → w.heap.size ≤ g → Blk W g fin T → Q .normal (putAll l vs a) W) :
    (Code.region id l.toArray true).wp P Q a w := by
  refine wp_region_inv (fun L a' W => ∃ vs, vs.length = l.length ∧ a' = putAll l vs a ∧ InvJ V ka ks T fin w vs L W) hm hf ?_ ?_ ?_
  · have hl : (l.map (slotOf a)).length = l.length := List.length_map _
    refine ⟨l.map (slotOf a), hl, (putAll_slots l a).symm, (Below.refl _ _).drew, fun i hi _ _ e => ?_, fun e => ?_, fun e => ?_⟩
    · rw [hl] at hi
      simp [Array.getD, hi] at e
    · simp [Array.getD, hka] at e
    · simp [Array.getD, hks] at e
  · rintro L _ W i ⟨vs, h1, rfl, hJ⟩ hi
    exact hstep L vs W i h1 hJ hi
  · rintro L _ W ⟨vs, h1, rfl, hJ⟩ hall
    obtain ⟨g, hs, hg, cs, -, hb, hc⟩ := hJ.made (hall ka hka)
    obtain rfl := hc (hall ks hks)
    exact hend vs g W h1 hJ.below (fun i hi i1 i2 => hJ.val i (by omega) i1 i2 (hall i hi)) hs hg hb
end
end Go.Proofs.YtmhhohancconaaaGreat

namespace Go.Proofs.YtmhhohancconaaaGreat
open Go Go.RowKit
set_option maxRecDepth 20000
section
variable {P : Program}

/-- A block: the operation that makes it, the one that fills it, the type of its cells, and the cells when it is filled. -/
structure Mk where
  ka : Nat
  ks : Nat
  T : TypeId
  fin : Array Value
/-- The blocks of a region do not mix; sp lists their operations. -/
def mkOk (sp : List Nat) (B : List Mk) : Prop := ∀ b ∈ B, (b.ka ∈ sp ∧ b.ks ∈ sp ∧ b.ka ≠ b.ks) ∧ ∀ b' ∈ B, (b.ka = b'.ka → b = b') ∧ (b.ks = b'.ks → b = b') ∧ b.ka ≠ b'.ks
structure InvM (V : List Value) (sp : List Nat) (B : List Mk) (w0 : World) (vs : List Value) (L : Array Bool) (W : World) : Prop where
  below : Below w0.heap.size w0 W
  val : ∀ i, i < vs.length → i ∉ sp → L.getD i true = true → vs.getD i undef = V.getD i undef
  made : ∀ b ∈ B, L.getD b.ka true = true → ∃ g, vs.getD b.ka undef = .pointer (some ⟨g, 0, none⟩) ∧ w0.heap.size ≤ g ∧ ∃ cs : Array Value, cs.size = b.fin.size ∧ Blk W g cs b.T ∧ (L.getD b.ks true = true → cs = b.fin)
  late : ∀ b ∈ B, L.getD b.ks true = true → L.getD b.ka true = true
  diff : ∀ b ∈ B, ∀ b' ∈ B, b.ka ≠ b'.ka → L.getD b.ka true = true → L.getD b'.ka true = true → vs.getD b.ka undef ≠ vs.getD b'.ka undef
theorem mkOk_two {a1 s1 a2 s2 : Nat} {T1 T2 : TypeId} {F1 F2 : Array Value} (h : a1 ≠ s1 ∧ a1 ≠ a2 ∧ a1 ≠ s2 ∧ s1 ≠ a2 ∧ s1 ≠ s2 ∧ a2 ≠ s2) : mkOk [a1, s1, a2, s2] [⟨a1, s1, T1, F1⟩, ⟨a2, s2, T2, F2⟩] := by
  obtain ⟨h1, h2, h3, h4, h5, h6⟩ := h
  intro b hb
  simp only [List.mem_cons, List.not_mem_nil, or_false] at hb
  refine ⟨?_, fun b' hb' => ?_⟩
  · rcases hb with rfl | rfl
    · exact ⟨by simp, by simp, h1⟩
    · exact ⟨by simp, by simp, h6⟩
  · simp only [List.mem_cons, List.not_mem_nil, or_false] at hb'
    rcases hb with rfl | rfl <;> rcases hb' with rfl | rfl
    · exact ⟨fun _ => rfl, fun _ => rfl, h1⟩
    · exact ⟨fun e => absurd e h2, fun e => absurd e h5, h3⟩
    · exact ⟨fun e => absurd e.symm h2, fun e => absurd e.symm h5, fun e => h4 e.symm⟩
    · exact ⟨fun _ => rfl, fun _ => rfl, h6⟩
theorem mkOk_one {a1 s1 : Nat} {T1 : TypeId} {F1 : Array Value} (h : a1 ≠ s1) : mkOk [a1, s1] [⟨a1, s1, T1, F1⟩] := by
  intro b hb
  simp only [List.mem_cons, List.not_mem_nil, or_false] at hb
  subst hb
  refine ⟨⟨by simp, by simp, h⟩, fun b' hb' => ?_⟩
  simp only [List.mem_cons, List.not_mem_nil, or_false] at hb'
  subst hb'
  exact ⟨fun _ => rfl, fun _ => rfl, h⟩
variable {V : List Value} {sp : List Nat} {B : List Mk} {w0 W : World} {vs : List Value} {L : Array Bool}
theorem getD_set_self' {vs : List Value} {i : Nat} (h : i < vs.length) (u : Value) : (vs.set i u).getD i undef = u := by
  rw [List.getD_eq_getElem?_getD, List.getElem?_set_self h]; rfl
theorem getD_set_other {vs : List Value} {i j : Nat} (h : i ≠ j) (u : Value) : (vs.set i u).getD j undef = vs.getD j undef := by
  rw [List.getD_eq_getElem?_getD, List.getElem?_set_ne h, ← List.getD_eq_getElem?_getD]
theorem InvM.grow (h : InvM V sp B w0 vs L W) (x : World) : InvM V sp B w0 vs L (ext W x) where
  below := grow_ext _ h.below
  val := h.val
  made := fun b hb e => let ⟨g, h1, h2, cs, h3, hk, hc⟩ := h.made b hb e; ⟨g, h1, h2, cs, h3, hk.ext x, hc⟩
  late := h.late
  diff := h.diff
theorem InvM.up (h : InvM V sp B w0 vs L W) (ok : mkOk sp B) (i : Nat) (hs : i ∉ sp) (hi : i < vs.length) {u : Value} (hu : u = V.getD i undef) : InvM V sp B w0 (vs.set i u) (L.setIfInBounds i true) W where
  below := h.below
  val := fun j jl js hj => by
    rw [List.length_set] at jl
    by_cases hij : i = j
    · subst hij
      rw [getD_set_self' hi, hu]
    · rw [getD_other hij] at hj
      rw [getD_set_other hij]
      exact h.val j jl js hj
  made := fun b hb e => by
    have ha : i ≠ b.ka := fun e => hs (e ▸ (ok b hb).1.1)
    have hk : i ≠ b.ks := fun e => hs (e ▸ (ok b hb).1.2.1)
    rw [getD_other ha] at e
    obtain ⟨g, h1, h2, cs, h3, hb, hc⟩ := h.made b hb e
    exact ⟨g, by rw [getD_set_other ha]; exact h1, h2, cs, h3, hb, fun e2 => hc (by rwa [getD_other hk] at e2)⟩
  late := fun b hb e => by
    have ha : i ≠ b.ka := fun e => hs (e ▸ (ok b hb).1.1)
    have hk : i ≠ b.ks := fun e => hs (e ▸ (ok b hb).1.2.1)
    rw [getD_other hk] at e
    rw [getD_other ha]
    exact h.late b hb e
  diff := fun b hb b' hb' hne e e' => by
    have ha : i ≠ b.ka := fun e => hs (e ▸ (ok b hb).1.1)
    have ha' : i ≠ b'.ka := fun e => hs (e ▸ (ok b' hb').1.1)
    rw [getD_other ha] at e
    rw [getD_other ha'] at e'
    rw [getD_set_other ha, getD_set_other ha']
    exact h.diff b hb b' hb' hne e e'
theorem InvM.make (h : InvM V sp B w0 vs L W) (ok : mkOk sp B) (b : Mk) (hb : b ∈ B) (hi : b.ka < vs.length) (hun : L.getD b.ka true = false) (cs : Array Value) (hcs : cs.size = b.fin.size) {u : Value} (hu : u = .pointer (some ⟨W.heap.size, 0, none⟩)) : InvM V sp B w0 (vs.set b.ka u) (L.setIfInBounds b.ka true) (W.alloc (.cells cs b.T)) where
  below := grow_alloc _ h.below
  val := fun j jl js hj => by
    rw [List.length_set] at jl
    have hij : b.ka ≠ j := fun e => js (e ▸ (ok b hb).1.1)
    rw [getD_other hij] at hj
    rw [getD_set_other hij]
    exact h.val j jl js hj
  made := fun b' hb' e => by
    by_cases hk : b.ka = b'.ka
    · obtain rfl := ((ok b hb).2 b' hb').1 hk
      refine ⟨W.heap.size, by rw [getD_set_self' hi, hu], h.below.size, cs, hcs, Blk.new _ _ _, fun e2 => ?_⟩
      rw [getD_other (ok b hb).1.2.2] at e2
      have := h.late b hb e2
      rw [hun] at this; cases this
    · rw [getD_other hk] at e
      obtain ⟨g, h1, h2, cs', h3, hbk, hc⟩ := h.made b' hb' e
      exact ⟨g, by rw [getD_set_other hk]; exact h1, h2, cs', h3, hbk.alloc _, fun e2 => hc (by rwa [getD_other ((ok b hb).2 b' hb').2.2] at e2)⟩
  late := fun b' hb' e => by
    by_cases hk : b.ka = b'.ka
    · rw [hk]; exact getD_self
    · rw [getD_other ((ok b hb).2 b' hb').2.2] at e
      rw [getD_other hk]
      exact h.late b' hb' e
  diff := fun c hc c' hc' hne e e' => by
    have hfresh : ∀ d ∈ B, b.ka ≠ d.ka → L.getD d.ka true = true → vs.getD d.ka undef ≠ .pointer (some ⟨W.heap.size, 0, none⟩) := by
      intro d hd _ hl he
      obtain ⟨g, h1, _, _, _, hbk, _⟩ := h.made d hd hl
      rw [he] at h1
      have := hbk.lt
      injection h1 with h1
      injection h1 with h1
      injection h1 with h1
      omega
    by_cases h1 : b.ka = c.ka
    · by_cases h2 : b.ka = c'.ka
      · exact absurd (h1.symm.trans h2) hne
      · rw [getD_other h2] at e'
        rw [← h1, getD_set_self' hi, getD_set_other h2, hu]
        exact (hfresh c' hc' h2 e').symm
    · rw [getD_other h1] at e
      rw [getD_set_other h1]
      by_cases h2 : b.ka = c'.ka
      · rw [← h2, getD_set_self' hi, hu]
        exact hfresh c hc h1 e
      · rw [getD_other h2] at e'
        rw [getD_set_other h2]
        exact h.diff c hc c' hc' hne e e'
theorem InvM.fill (h : InvM V sp B w0 vs L W) (ok : mkOk sp B) (b : Mk) (hb : b ∈ B) (hl : L.getD b.ka true = true) {g : Nat} (hs : vs.getD b.ka undef = .pointer (some ⟨g, 0, none⟩)) (hg : w0.heap.size ≤ g) {W' : World} (hbw : Below w0.heap.size w0 W') (hfr : ∀ k, k ≠ g → W'.heap[k]? = W.heap[k]?) (hk : Blk W' g b.fin b.T) : InvM V sp B w0 vs (L.setIfInBounds b.ks true) W' where
  below := hbw
  val := fun j jl js hj => by
    have hij : b.ks ≠ j := fun e => js (e ▸ (ok b hb).1.2.1)
    rw [getD_other hij] at hj
    exact h.val j jl js hj
  made := fun b' hb' e => by
    have h1 : b.ks ≠ b'.ka := fun e => ((ok b' hb').2 b hb).2.2 e.symm
    rw [getD_other h1] at e
    by_cases h2 : b.ka = b'.ka
    · obtain rfl := ((ok b hb).2 b' hb').1 h2
      exact ⟨g, hs, hg, _, rfl, hk, fun _ => rfl⟩
    · obtain ⟨g', e1, e2, cs, e3, e4, e5⟩ := h.made b' hb' e
      have hne : g' ≠ g := by
        intro eq
        have := h.diff b hb b' hb' h2 hl e
        rw [hs, e1, eq] at this
        exact this rfl
      exact ⟨g', e1, e2, cs, e3, e4.of_block (hfr g' hne), fun q => e5 (by rwa [getD_other (fun e => h2 (by rw [((ok b hb).2 b' hb').2.1 e]))] at q)⟩
  late := fun b' hb' e => by
    have h1 : b.ks ≠ b'.ka := fun e => ((ok b' hb').2 b hb).2.2 e.symm
    rw [getD_other h1]
    by_cases h2 : b.ks = b'.ks
    · obtain rfl := ((ok b hb).2 b' hb').2.1 h2
      exact hl
    · rw [getD_other h2] at e
      exact h.late b' hb' e
  diff := fun c hc c' hc' hne e e' => by
    rw [getD_other (fun e => ((ok c hc).2 b hb).2.2 e.symm)] at e
    rw [getD_other (fun e => ((ok c' hc').2 b hb).2.2 e.symm)] at e'
    exact h.diff c hc c' hc' hne e e'

theorem wp_region_M {id : Nat} {Q : Exit → Act → World → Prop} {a : Act} {w : World} {l : List Oper} (V : List Value) (sp : List Nat) (B : List Mk) (hm : P.follows .mixedOrders = true) (hf : forwardB .any l.toArray = true)
    (hin : ∀ b ∈ B, b.ka < l.length ∧ b.ks < l.length)
    (hstep : ∀ L vs W i, vs.length = l.length → InvM V sp B w vs L W → i ∈ Region.ready .any l.toArray L → wpOp P l.toArray Q i (fun a' W' => ∃ vs', vs'.length = l.length ∧ a' = putAll l vs' a ∧ InvM V sp B w vs' (L.setIfInBounds i true) W') (putAll l vs a) W)
    (hend : ∀ vs L W, vs.length = l.length → InvM V sp B w vs L W → (∀ j, j < l.length → L.getD j true = true) → Q .normal (putAll l vs a) W) :
    (Code.region id l.toArray true).wp P Q a w := by
  refine wp_region_inv (fun L a' W => ∃ vs, vs.length = l.length ∧ a' = putAll l vs a ∧ InvM V sp B w vs L W) hm hf ?_ ?_ ?_
  · have hl : (l.map (slotOf a)).length = l.length := List.length_map _
    have hno : ∀ j, j < l.length → (Array.replicate l.length false).getD j true = true → False := fun j hj e => by simp [Array.getD, hj] at e
    refine ⟨l.map (slotOf a), hl, (putAll_slots l a).symm, (Below.refl _ _).drew, fun i hi _ e => ?_, fun b hb e => ?_, fun b hb e => ?_, fun b hb _ _ _ e => ?_⟩
    · exact absurd e (fun e => hno i (by rwa [hl] at hi) e)
    · exact absurd e (fun e => hno _ (hin b hb).1 e)
    · exact absurd e (fun e => hno _ (hin b hb).2 e)
    · exact absurd e (fun e => hno _ (hin b hb).1 e)
  · rintro L _ W i ⟨vs, h1, rfl, hJ⟩ hi
    exact hstep L vs W i h1 hJ hi
  · rintro L _ W ⟨vs, h1, rfl, hJ⟩ hall
    exact hend vs L W h1 hJ hall
end
end Go.Proofs.YtmhhohancconaaaGreat

