/- PokCo, InvJ in one text. -/
import Derived.Test.YtmoechhfjmemaaaGreatPokK1
import Derived.Test.YtmoechhfjmemaaaGreatBaseK
import Derived.Test.YtmoechhfjmemaaaGreatRefLK4
namespace Go.Proofs.YtmoechhfjmemaaaGreat
open Go.RowKit
set_option maxRecDepth 20000

def eqPt (p q : Pt) : Bool := p.x == q.x && (p.y == q.y && p.z == q.z)
theorem eqPt_iff {p q : Pt} : eqPt p q = true ↔ p = q := by
  unfold eqPt
  obtain ⟨a, b, c⟩ := p
  obtain ⟨a', b', c'⟩ := q
  simp
theorem eqPt_cases (p m : Pt) : (eqPt p m = true ∧ (p.x == m.x) = true ∧ (p.y == m.y) = true ∧ (p.z == m.z) = true) ∨ (eqPt p m = false ∧ (p.x == m.x) = false) ∨ (eqPt p m = false ∧ (p.x == m.x) = true ∧ (p.y == m.y) = false) ∨ (eqPt p m = false ∧ (p.x == m.x) = true ∧ (p.y == m.y) = true ∧ (p.z == m.z) = false) := by
  unfold eqPt
  cases p.x == m.x <;> cases p.y == m.y <;> cases p.z == m.z <;> simp

set_option maxRecDepth 100000 in
set_option maxHeartbeats 2000000 in
theorem indexPt_c (l : List Pt) (p : Pt) (v : Value) (w : World) (hl : Pts w v l) :
    Calls Tryz.prog 81 #[v, (.agg #[.int .i64 p.x, .int .i64 p.y, .int .i64 p.z])] w (Ret w (.int .i64 (((l.findIdx? (eqPt p)).map (fun i : Nat => (i : Int))).getD (-1)))) := by
  obtain ⟨a, cap, rfl, h2, h3, h4⟩ := hl
  have H4 := Lib.hid h4
  clear h4
  have hn : l.length ≤ 9223372036854775807 := by omega
  go_enter Tryz.func81, Tryz.ntmps81
  go_wp2_with fail
  refine world_mask (fun W => (∃ z, W = ext w z) ∧ PtAt W w.heap.size 0 p) _ ⟨ext_of (by (repeat (first | exact grow_refl _ | refine grow_ext _ ?_ | refine grow_alloc _ ?_ | refine grow_drew ?_))), by simp [PtAt, go_sem]⟩ ?_
  rintro W0 ⟨hz, hp⟩
  have HZ := Lib.hid hz
  have HP := Lib.hid hp
  clear hz hp
  go_loopw [8] (fun i wr => ∃ k : Nat, k ≤ l.length ∧ i = .int .i64 k ∧ (∃ x, wr = ext W0 x) ∧ ∀ j (h : j < k) (h' : j < l.length), eqPt p l[j] = false) (fun i _ => l.length - (intOf i).toNat)
  case atStart => exact ⟨0, by omega, rfl, ext_of (Below.refl _ _), fun j h => by omega⟩
  case round =>
    obtain ⟨k, hk, rfl, ⟨x, rfl⟩, hno⟩ := hrel
    have HNO := Lib.hid hno
    clear hno
    have HB := Lib.hid (show Below w.heap.size w (ext W0 x) by obtain ⟨z, e⟩ := HZ.out; rw [e, ext_ext]; exact below_ext _ _)
    by_cases hlt : k < l.length
    · obtain ⟨b, off, rfl, c0, c1, c2⟩ := H4.out k hlt
      obtain ⟨y, ey⟩ := ext_of HB.out
      have c0 := cell_ext_some c0 y
      have c1 := cell_ext_some c1 y
      have c2 := cell_ext_some c2 y
      rw [← ey] at c0 c1 c2
      obtain ⟨d0, d1, d2⟩ := HP.out.ext x
      simp only [Nat.zero_add] at d1 d2
      have q1 : (0 : Int) ≤ (k : Int) := by omega
      have q2 : (k : Int) < (l.length : Int) := by omega
      have HNS := Lib.hid (fun (h : eqPt p l[k] = false) j (h1 : j < k + 1) (h2 : j < l.length) => show eqPt p l[j] = false by
        rcases Nat.lt_or_ge j k with h3 | h3
        · exact HNO.out j h3 h2
        · obtain rfl : j = k := by omega
          exact h)
      have HFO := Lib.hid (fun (h : eqPt p l[k] = true) => show l.findIdx? (eqPt p) = some k by
        rw [List.findIdx?_eq_some_iff_getElem]
        exact ⟨hlt, h, fun j hj => by simp [HNO.out j hj (by omega)]⟩)
      generalize l[k] = m at *
      clear ey
      rcases eqPt_cases p m with ⟨hE, h1, h2, h3⟩ | ⟨hE, h1⟩ | ⟨hE, h1, h2⟩ | ⟨hE, h1, h2, h3⟩
      · have HF1 := Lib.hid (HFO.out hE)
        clear hE HNS HFO
        go_wp2_with fail
        refine wp_region_grows (by kernel_rfl) (by kernel_rfl) ?_
        repeat (go_big_quiet_step (fail))
        refine wpQuiet_nil ?_; rintro _ ⟨xq, rfl⟩
        clear h1 h2 h3
        go_wp2
        go_ret
        rw [HF1.out]
        exact Ret.of (HB.out.trans (Below.mono (by (repeat (first | exact grow_refl _ | refine grow_ext _ ?_ | refine grow_alloc _ ?_ | refine grow_drew ?_))) HB.out.size))
      · have HN1 := Lib.hid (HNS.out hE)
        clear hE HNS HFO
        go_wp2_with fail
        refine wp_region_grows (by kernel_rfl) (by kernel_rfl) ?_
        repeat (go_big_quiet_step (fail))
        refine wpQuiet_nil ?_; rintro _ ⟨xq, rfl⟩
        clear h1
        go_wp2
        go_roundw
        case rel => exact ⟨k + 1, by omega, by go_num, ext_of (by (repeat (first | exact grow_refl _ | refine grow_ext _ ?_ | refine grow_alloc _ ?_ | refine grow_drew ?_))), HN1.out⟩
        case measure => simp [intOf]; omega
      · have HN1 := Lib.hid (HNS.out hE)
        clear hE HNS HFO
        go_wp2_with fail
        refine wp_region_grows (by kernel_rfl) (by kernel_rfl) ?_
        repeat (go_big_quiet_step (fail))
        refine wpQuiet_nil ?_; rintro _ ⟨xq, rfl⟩
        clear h1 h2
        go_wp2
        go_roundw
        case rel => exact ⟨k + 1, by omega, by go_num, ext_of (by (repeat (first | exact grow_refl _ | refine grow_ext _ ?_ | refine grow_alloc _ ?_ | refine grow_drew ?_))), HN1.out⟩
        case measure => simp [intOf]; omega
      · have HN1 := Lib.hid (HNS.out hE)
        clear hE HNS HFO
        go_wp2_with fail
        refine wp_region_grows (by kernel_rfl) (by kernel_rfl) ?_
        repeat (go_big_quiet_step (fail))
        refine wpQuiet_nil ?_; rintro _ ⟨xq, rfl⟩
        clear h1 h2 h3
        go_wp2
        go_roundw
        case rel => exact ⟨k + 1, by omega, by go_num, ext_of (by (repeat (first | exact grow_refl _ | refine grow_ext _ ?_ | refine grow_alloc _ ?_ | refine grow_drew ?_))), HN1.out⟩
        case measure => simp [intOf]; omega
    · have he : l.findIdx? (eqPt p) = none := by
        rw [List.findIdx?_eq_none_iff]
        intro z hz
        obtain ⟨j, hj, rfl⟩ := List.getElem_of_mem hz
        exact HNO.out j (by omega) hj
      have HE := Lib.hid he
      clear he
      go_wp2
      go_ret
      rw [HE.out]
      exact Ret.of HB.out
theorem containsPt_v (l : List Pt) (p : Pt) (v : Value) (b : Bool) (h : (l.any (eqPt p)) = b) (w : World) (hl : Pts w v l) :
    Calls Tryz.prog 42 #[v, (.agg #[.int .i64 p.x, .int .i64 p.y, .int .i64 p.z])] w (Ret w (.bool b)) := by
  have HL := Lib.hid hl
  have HI := Lib.hid (fun w hl => indexPt_c l p v w hl)
  have hf := @find_anyPt (eqPt p) l
  rw [h] at hf
  generalize ((l.findIdx? (eqPt p)).map (fun i : Nat => (i : Int))).getD (-1) = I at *
  clear hl h
  go_enter Tryz.func42, Tryz.ntmps42
  go_wp2_with fail
  go_at_call 81; refine (HI.out _ (HL.out.below (by (repeat (first | exact grow_refl _ | refine grow_ext _ ?_ | refine grow_alloc _ ?_ | refine grow_drew ?_))))).mono ?_; rintro e w' ⟨rfl, x1, rfl⟩
  go_wp2
  go_ret
  exact Ret.of (by (repeat (first | exact grow_refl _ | refine grow_ext _ ?_ | refine grow_alloc _ ?_ | refine grow_drew ?_)))
theorem any_mem {l : List Pt} {p : Pt} : l.any (eqPt p) = true ↔ p ∈ l := by
  rw [List.any_eq_true]
  constructor
  · rintro ⟨x, hx, h⟩
    rw [eqPt_iff] at h
    subst h; exact hx
  · intro h; exact ⟨p, h, eqPt_iff.2 rfl⟩

end Go.Proofs.YtmoechhfjmemaaaGreat

namespace Go.Proofs.YtmoechhfjmemaaaGreat
open Go Go.RowKit
set_option maxRecDepth 20000
section
variable {P : Program}

/-- The frame with what the operations have written. -/
def putAll : List Oper → List Value → Act → Act
  | o :: l, v :: vs, a => putAll l vs (a.put o.dst v)
  | _, _, a => a
theorem putAll_cons (o : Oper) (l : List Oper) (v : Value) (vs : List Value) (a : Act) : putAll (o :: l) (v :: vs) a = putAll l vs (a.put o.dst v) := rfl
theorem putAll_nil (a : Act) : putAll [] [] a = a := rfl
theorem put_some (t : Array Value) (d : List Deferred) (k : Nat) (v : Value) : (Act.mk t d).put (some k) v = ⟨t.setIfInBounds k v, d⟩ := rfl
theorem put_none (a : Act) (v : Value) : a.put none v = a := rfl
/-- What the operations' slots hold. -/
def slotOf (a : Act) (o : Oper) : Value := match o.dst with | some d => a.tmps.getD d undef | none => undef
theorem put_slot (a : Act) (o : Oper) : a.put o.dst (slotOf a o) = a := by
  unfold slotOf
  cases o.dst with
  | none => rfl
  | some d =>
    obtain ⟨t, ds⟩ := a
    rw [put_some]
    congr 1
    apply Array.ext_getElem?
    intro k
    rw [Array.getElem?_setIfInBounds]
    by_cases h : d = k
    · subst h
      rw [if_pos rfl]
      by_cases hd : d < t.size
      · rw [if_pos hd, Array.getElem?_eq_getElem hd]
        simp [Array.getD, hd]
      · rw [if_neg hd, Array.getElem?_eq_none (Nat.le_of_not_lt hd)]
    · rw [if_neg h]
theorem putAll_slots (l : List Oper) (a : Act) : putAll l (l.map (slotOf a)) a = a := by
  induction l with
  | nil => rfl
  | cons o l ih => rw [List.map_cons, putAll_cons, put_slot, ih]
theorem len_cons {α : Type} {l : List α} {n : Nat} (h : l.length = n + 1) : ∃ a t, l = a :: t ∧ t.length = n := by
  cases l with
  | nil => cases h
  | cons a t => exact ⟨a, t, rfl, by simpa using h⟩
theorem len_nil {α : Type} {l : List α} (h : l.length = 0) : l = [] := List.eq_nil_of_length_eq_zero h

theorem getD_self {L : Array Bool} {i : Nat} : (L.setIfInBounds i true).getD i true = true := by
  unfold Array.getD
  by_cases h : i < (L.setIfInBounds i true).size
  · simp only [h, dite_true]; simp
  · simp only [h, dite_false]
theorem getD_other {L : Array Bool} {i j : Nat} (h : i ≠ j) : (L.setIfInBounds i true).getD j true = L.getD j true := getD_set_ne true h

theorem fill3 {cs : Array Value} {a b c : Value} (h : cs.size = (#[a, b, c] : Array Value).size) : ((cs.setIfInBounds 0 a).setIfInBounds 1 b).setIfInBounds 2 c = #[a, b, c] := by
  rcases cs with ⟨l⟩
  have h' : l.length = 3 := h
  match l, h' with
  | [_, _, _], _ => rfl
theorem fill2 {cs : Array Value} {a b : Value} (h : cs.size = (#[a, b] : Array Value).size) : (cs.setIfInBounds 0 a).setIfInBounds 1 b = #[a, b] := by
  rcases cs with ⟨l⟩
  have h' : l.length = 2 := h
  match l, h' with
  | [_, _], _ => rfl

/-- ka: the operation that makes the block, ks: the one that fills it. -/
structure InvJ (V : List Value) (ka ks : Nat) (T : TypeId) (fin : Array Value) (w0 : World) (vs : List Value) (L : Array Bool) (W : World) : Prop where
  below : Below w0.heap.size w0 W
  val : ∀ i, i < vs.length → i ≠ ka → i ≠ ks → L.getD i true = true → vs.getD i undef = V.getD i undef
  made : L.getD ka true = true → ∃ g, vs.getD ka undef = .pointer (some ⟨g, 0, none⟩) ∧ w0.heap.size ≤ g ∧ ∃ cs : Array Value, cs.size = fin.size ∧ Blk W g cs T ∧ (L.getD ks true = true → cs = fin)
  late : L.getD ks true = true → L.getD ka true = true
variable {V : List Value} {ka ks : Nat} {T : TypeId} {fin : Array Value} {w0 W : World} {vs : List Value} {L : Array Bool}
theorem InvJ.grow (h : InvJ V ka ks T fin w0 vs L W) (x : World) : InvJ V ka ks T fin w0 vs L (ext W x) where
  below := grow_ext _ h.below
  val := h.val
  made := fun e => let ⟨g, h1, h2, cs, h3, hb, hc⟩ := h.made e; ⟨g, h1, h2, cs, h3, hb.ext x, hc⟩
  late := h.late
theorem InvJ.grows (h : InvJ V ka ks T fin w0 vs L W) {W' : World} (hb : Below W.heap.size W W') : InvJ V ka ks T fin w0 vs L W' := by
  obtain ⟨x, rfl⟩ := ext_of hb
  exact h.grow x
theorem InvJ.up (h : InvJ V ka ks T fin w0 vs L W) (i : Nat) (ha : i ≠ ka) (hs : i ≠ ks) (hi : i < vs.length) {u : Value} (hu : u = V.getD i undef) : InvJ V ka ks T fin w0 (vs.set i u) (L.setIfInBounds i true) W where
  below := h.below
  val := fun j jl j1 j2 hj => by
    rw [List.length_set] at jl
    by_cases hij : i = j
    · subst hij
      rw [List.getD_eq_getElem?_getD, List.getElem?_set_self hi, hu]; rfl
    · rw [getD_other hij] at hj
      rw [List.getD_eq_getElem?_getD, List.getElem?_set_ne hij, ← List.getD_eq_getElem?_getD]
      exact h.val j jl j1 j2 hj
  made := fun e => by
    rw [getD_other ha] at e
    obtain ⟨g, h1, h2, cs, h3, hb, hc⟩ := h.made e
    refine ⟨g, ?_, h2, cs, h3, hb, fun e2 => hc (by rwa [getD_other hs] at e2)⟩
    rw [List.getD_eq_getElem?_getD, List.getElem?_set_ne ha, ← List.getD_eq_getElem?_getD]
    exact h1
  late := fun e => by rw [getD_other hs] at e; rw [getD_other ha]; exact h.late e
theorem InvJ.make (h : InvJ V ka ks T fin w0 vs L W) (hi : ka < vs.length) (hne : ka ≠ ks) (hun : L.getD ka true = false) (cs : Array Value) (hcs : cs.size = fin.size) {u : Value} (hu : u = .pointer (some ⟨W.heap.size, 0, none⟩)) : InvJ V ka ks T fin w0 (vs.set ka u) (L.setIfInBounds ka true) (W.alloc (.cells cs T)) where
  below := grow_alloc _ h.below
  val := fun j jl j1 j2 hj => by
    rw [List.length_set] at jl
    rw [getD_other (fun e => j1 e.symm)] at hj
    rw [List.getD_eq_getElem?_getD, List.getElem?_set_ne (fun e => j1 e.symm), ← List.getD_eq_getElem?_getD]
    exact h.val j jl j1 j2 hj
  made := fun _ => ⟨W.heap.size, by rw [List.getD_eq_getElem?_getD, List.getElem?_set_self hi, hu]; rfl, h.below.size, cs, hcs, Blk.new _ _ _, fun e2 => by
    rw [getD_other hne] at e2
    have := h.late e2
    rw [hun] at this; cases this⟩
  late := fun _ => getD_self
theorem InvJ.fill (h : InvJ V ka ks T fin w0 vs L W) (hne : ka ≠ ks) (hl : L.getD ka true = true) {g : Nat} (hs : vs.getD ka undef = .pointer (some ⟨g, 0, none⟩)) (hg : w0.heap.size ≤ g) {W' : World} (hb : Below w0.heap.size w0 W') (hk : Blk W' g fin T) : InvJ V ka ks T fin w0 vs (L.setIfInBounds ks true) W' where
  below := hb
  val := fun j jl j1 j2 hj => h.val j jl j1 j2 (by rwa [getD_other (fun e => j2 e.symm)] at hj)
  made := fun _ => ⟨g, hs, hg, _, rfl, hk, fun _ => rfl⟩
  late := fun _ => by rw [getD_other (fun e => hne e.symm)]; exact hl

/-- A walk over one operation whose end stands behind a name. -/
theorem wpOp_free {ops : Array Oper} {Q : Exit → Act → World → Prop} {i : Nat} {a : Act} {w : World} {B K0 : Act → World → Prop} (hB : ∀ a w, B a w → K0 a w) (h : ∀ K : Act → World → Prop, RowKit.Hid (∀ a w, B a w → K a w) → wpOp P ops Q i K a w) : wpOp P ops Q i K0 a w := h K0 (Lib.hid hB)

theorem wp_region_J {id : Nat} {Q : Exit → Act → World → Prop} {a : Act} {w : World} {l : List Oper} (V : List Value) (ka ks : Nat) (T : TypeId) (fin : Array Value) (hm : P.follows .mixedOrders = true) (hf : forwardB .any l.toArray = true)
    (hka : ka < l.length) (hks : ks < l.length)
    (hstep : ∀ L vs W i, vs.length = l.length → InvJ V ka ks T fin w vs L W → i ∈ Region.ready .any l.toArray L → wpOp P l.toArray Q i (fun a' W' => ∃ vs', vs'.length = l.length ∧ a' = putAll l vs' a ∧ InvJ V ka ks T fin w vs' (L.setIfInBounds i true) W') (putAll l vs a) W)
    (hend : ∀ vs g W, vs.length = l.length → Below w.heap.size w W → (∀ i, i < l.length → i ≠ ka → i ≠ ks → vs.getD i undef = V.getD i undef) → vs.getD ka undef = .pointer (some ⟨g, 0, none⟩) → w.heap.size ≤ g → Blk W g fin T → Q .normal (putAll l vs a) W) :
    (Code.region id l.toArray true).wp P Q a w := by
  refine wp_region_inv (fun L a' W => ∃ vs, vs.length = l.length ∧ a' = putAll l vs a ∧ InvJ V ka ks T fin w vs L W) hm hf ?_ ?_ ?_
  · have hl : (l.map (slotOf a)).length = l.length := List.length_map _
    refine ⟨l.map (slotOf a), hl, (putAll_slots l a).symm, (Below.refl _ _).drew, fun i hi _ _ e => ?_, fun e => ?_, fun e => ?_⟩
    · rw [hl] at hi
      simp [Array.getD, hi] at e
    · simp [Array.getD, hka] at e
    · simp [Array.getD, hks] at e
  · rintro L _ W i ⟨vs, h1, rfl, hJ⟩ hi
    exact hstep L vs W i h1 hJ hi
  · rintro L _ W ⟨vs, h1, rfl, hJ⟩ hall
    obtain ⟨g, hs, hg, cs, -, hb, hc⟩ := hJ.made (hall ka hka)
    obtain rfl := hc (hall ks hks)
    exact hend vs g W h1 hJ.below (fun i hi i1 i2 => hJ.val i (by omega) i1 i2 (hall i hi)) hs hg hb
end
end Go.Proofs.YtmoechhfjmemaaaGreat

