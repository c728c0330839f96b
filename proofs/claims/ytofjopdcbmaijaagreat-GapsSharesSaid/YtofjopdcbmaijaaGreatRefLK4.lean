/- Mid, InvR, RefL8 in one text. -/
import Derived.Test.YtofjopdcbmaijaaGreatExtK
import Derived.Test.YtofjopdcbmaijaaGreatRefLK2
import Derived.Test.YtofjopdcbmaijaaGreatLaidK3
namespace Go.Proofs.YtofjopdcbmaijaaGreat
open Go Go.RowKit
set_option maxRecDepth 20000
section
variable {P : Program} {ops : Array Oper} {md : Region.Mode} {C : World → Prop}

/-- Each operation behind n waits for one of those from n on. -/
def chainW (md : Region.Mode) (ops : Array Oper) (n : Nat) : Bool :=
  (List.range ops.size).all fun t => decide (t ≤ n) || (List.range t).any fun j => decide (n ≤ j) && Region.waitsFor md ops t j

theorem tail_waits_w {n : Nat} {listed : Array Bool} (hs : Region.sinkB md ops n = true) (hc : chainW md ops n = true) (hn : n < ops.size) (inv : HeadInv md ops n listed) :
    ∀ (d i : Nat), n - i = d → i < n → listed.getD i true = false → ∀ t, n ≤ t → t ∉ Region.ready md ops listed := by
  intro d
  induction d using Nat.strongRecOn with
  | _ d ih =>
    intro i hd hi hun t ht hr
    obtain ⟨_, ot, hot, hall⟩ := mem_ready.1 hr
    have htlt : t < ops.size := (Array.getElem?_eq_some_iff.1 hot).1
    by_cases htn : t = n
    · subst htn
      have h1 := List.all_eq_true.1 hs i (List.mem_range.2 hi)
      obtain ⟨j, hj, hj2⟩ := List.any_eq_true.1 h1
      simp only [Bool.and_eq_true, decide_eq_true_eq] at hj2
      obtain ⟨oj, hoj, e, he, hb, hon⟩ := Region.waitsFor_spec hj2.2
      have hjle : j ≤ t := by have := List.mem_range.1 hj; omega
      by_cases hjt : j = t
      · subst hjt
        have : oj = ot := Option.some.inj (hoj.symm.trans hot)
        subst this
        have h2 := hall e he hb
        rw [hon, getD_both hun] at h2
        cases h2
      · cases hl : listed.getD j false with
        | true =>
          have h2 := inv.closed j oj hoj hl e he hb
          rw [hon, getD_both hun] at h2
          cases h2
        | false =>
          have hjs : j < listed.size := by rw [inv.size]; omega
          exact ih (t - j) (by omega) j rfl (by omega) (getD_in hjs hl) t (Nat.le_refl _) hr
    · have h1 := List.all_eq_true.1 hc t (List.mem_range.2 htlt)
      simp only [Bool.or_eq_true, decide_eq_true_eq] at h1
      rcases h1 with h1 | h1
      · omega
      · obtain ⟨j, hj, hj2⟩ := List.any_eq_true.1 h1
        simp only [Bool.and_eq_true, decide_eq_true_eq] at hj2
        obtain ⟨o', ho', e, he, hb, hon⟩ := Region.waitsFor_spec hj2.2
        have hjt : j < t := List.mem_range.1 hj
        have : o' = ot := Option.some.inj (ho'.symm.trans hot)
        subst this
        have h2 := hall e he hb
        rw [hon, getD_both (inv.tail j hj2.1 (by omega))] at h2
        cases h2

theorem ready_lt_w {n i j : Nat} {listed : Array Bool} (hs : Region.sinkB md ops n = true) (hc : chainW md ops n = true) (hn : n < ops.size) (inv : HeadInv md ops n listed)
    (hi : i ∈ Region.ready md ops listed) (hin : i < n) (hj : j ∈ Region.ready md ops listed) : j < n := by
  rcases Nat.lt_or_ge j n with h | h
  · exact h
  · exact absurd hj (tail_waits_w hs hc hn inv _ i rfl hin (mem_ready.1 hi).1 j h)

theorem headQ_take_w {n i : Nat} {oi : Oper} {v : Value} {G : Array Bool → Act → Prop} (hi : ops[i]? = some oi) (hsel : ∀ (j : Nat) (o : Oper) cs b, ops[j]? = some o → o.op ≠ .select cs b)
    (hs : Region.sinkB md ops n = true) (hc : chainW md ops n = true) (hn : n < ops.size) (hin : i < n) (hG : ∀ listed a, G listed a → ∀ j ∈ Region.ready md ops listed, n ≤ j) (f : Nat) :
    ∀ (listed : Array Bool) (a : Act), HeadInv md ops n listed →
      (∀ j oj, ops[j]? = some oj → j ≠ i → listed.getD j true = false → (∀ e ∈ oj.after, Region.binds md e = true → e.on ≠ i) → oi.apart ops oj = true) →
      i ∈ Region.ready md ops listed → YieldsIn P ops C oi v a →
      headQ P md ops C n G f (listed.setIfInBounds i true) (a.put oi.dst v) → headQ P md ops C n G (f + 1) listed a := by
  induction f with
  | zero =>
    intro listed a inv _ hr hy H
    refine ⟨fun h => (by rw [h] at hr; cases hr), fun j hj => ?_⟩
    have hjn := ready_lt_w hs hc hn inv hr hin hj
    by_cases hji : j = i
    · subst hji; exact ⟨hjn, hy.qOp hi H⟩
    · have := hG _ _ H j (ready_mono hj hji)
      omega
  | succ f ih =>
    intro listed a inv hfree hr hy H
    refine ⟨fun h => (by rw [h] at hr; cases hr), fun j hj => ?_⟩
    have hjn := ready_lt_w hs hc hn inv hr hin hj
    refine ⟨hjn, ?_⟩
    by_cases hji : j = i
    · subst hji; exact hy.qOp hi H
    · obtain ⟨hjun, oj, hoj, hall⟩ := mem_ready.1 hj
      have hun := (mem_ready.1 hr).1
      have hnot : ∀ e ∈ oj.after, Region.binds md e = true → e.on ≠ i := fun e he hb heq => by
        have h1 := hall e he hb
        rw [heq, getD_both hun] at h1
        cases h1
      have h2 := qOp_put hoj (hfree j oj hoj hji hjun hnot) (fun cs b => hsel i oi cs b hi) (fun cs b => hsel j oj cs b hoj) hy (H.2 j (ready_mono hj hji)).2
      refine qOp_mono (fun a' h3 => ih (listed.setIfInBounds j true) a' (inv.set hj hjn) (fun k ok hk hki hkun hno => ?_) (ready_mono hr (Ne.symm hji)) h3.1 ?_) h2
      · refine hfree k ok hk hki ?_ hno
        by_cases hjk : j = k
        · subst hjk; exact hjun
        · rw [getD_set_ne true hjk] at hkun; exact hkun
      · rw [Array.setIfInBounds_comm _ _ hji]
        exact h3.2

/-- f operations from k on, each the only one that may come up; then the rest, g of them, by the lexical order. -/
def midSeq (md : Region.Mode) (ops : Array Oper) (g : Nat) : Nat → Nat → Array Bool → Bool
  | 0, k, listed => Region.lexFrom md ops g k listed
  | f + 1, k, listed => decide (Region.ready md ops listed = [k]) && midSeq md ops g f (k + 1) (listed.setIfInBounds k true)

def midHead (md : Region.Mode) (ops : Array Oper) (g m : Nat) : Nat → Nat → Array Bool → Bool
  | 0, k, listed => midSeq md ops g m k listed
  | f + 1, k, listed => (Region.ready md ops listed).contains k && Region.free md ops listed k && midHead md ops g m f (k + 1) (listed.setIfInBounds k true)

theorem midSeq_ready {g m k : Nat} {listed : Array Bool} (h : midSeq md ops g (m + 1) k listed = true) : ∀ j ∈ Region.ready md ops listed, k ≤ j := by
  intro j hj
  simp only [midSeq, Bool.and_eq_true, decide_eq_true_eq] at h
  rw [h.1] at hj
  have : j = k := by simpa using hj
  omega

theorem headQ_lex_w {n g m : Nat} {G : Act → Prop} (hsel : Region.noSelect ops = true) (hs : Region.sinkB md ops n = true) (hc : chainW md ops n = true) (hn : n < ops.size) (l : List Oper) :
    ∀ (k : Nat) (listed : Array Bool) (a : Act), (∀ j, j < l.length → l[j]? = ops[k + j]?) → k + l.length = n → HeadInv md ops n listed →
    midHead md ops g (m + 1) l.length k listed = true → wpQuiet P ops C G l a →
    headQ P md ops C n (fun listed' a' => midSeq md ops g (m + 1) n listed' = true ∧ G a') l.length listed a := by
  induction l with
  | nil =>
    intro k listed a _ hk _ hB h
    have : k = n := by simpa using hk
    subst this
    exact ⟨by simpa [midHead] using hB, h⟩
  | cons o l ih =>
    intro k listed a hl hk inv hB h
    have h0 : ops[k]? = some o := by simpa using (hl 0 (by simp)).symm
    simp only [List.length_cons, midHead, Bool.and_eq_true] at hB
    obtain ⟨⟨hr, hf⟩, hB'⟩ := hB
    simp only [List.length_cons] at hk
    have hr' : k ∈ Region.ready md ops listed := by simpa using hr
    have hq : qOp P ops C k (wpQuiet P ops C G l) a := by unfold qOp; simp only [h0]; exact h
    obtain ⟨v, hy, hK⟩ := yieldsIn_of_qOp h0 hq
    exact headQ_take_w h0 (Region.noSelect_spec hsel) hs hc hn (by omega) (fun listed' a' hL => midSeq_ready hL.1) l.length listed a inv (Region.free_spec h0 hf) hr' hy
      (ih (k + 1) _ _ (fun j hj => by have := hl (j + 1) (by simp; omega); simpa [Nat.add_assoc, Nat.add_comm 1 j] using this) (by omega) (inv.set hr' (by omega)) hB' hK)

/-- At its normal end T, else Q. -/
def thenQ (T : Act → World → Prop) (Q : Exit → Act → World → Prop) : Exit → Act → World → Prop
  | .normal, a, w => T a w
  | e, a, w => Q e a w

theorem thenQ_wp {T : Act → World → Prop} {Q : Exit → Act → World → Prop} {o : Oper} {a : Act} {w : World} {K : Act → World → Prop} (h : o.wp P a w K (thenQ T Q)) : o.wp P a w K Q := by
  unfold Oper.wp at h ⊢
  generalize (execOp a.eval o).run P w = r at h ⊢
  cases r with
  | ok n w' => cases n <;> first | exact h | (refine Calls.mono h ?_; intro e w2 he; cases e <;> exact he)
  | _ => exact h

theorem wpAny_mid {T : Act → World → Prop} {Q : Exit → Act → World → Prop} {g n : Nat} (hT : ∀ listed a w, Region.lexFrom md ops g n listed = true → T a w → wpAny P md ops Q g listed a w) :
    ∀ (l : List Oper) (k : Nat) (listed : Array Bool) (a : Act) (w : World), (∀ j, j < l.length → l[j]? = ops[k + j]?) → k + l.length = n →
    midSeq md ops g l.length k listed = true → wpList P ops (thenQ T Q) l a w → wpAny P md ops Q (l.length + g) listed a w
  | [], k, listed, a, w, _, hk, hB, h => by
    have : k = n := by simpa using hk
    subst this
    rw [show ([] : List Oper).length + g = g by simp]
    exact hT _ _ _ (by simpa [midSeq] using hB) h
  | o :: l, k, listed, a, w, hl, hk, hB, h => by
    have h0 : ops[k]? = some o := by simpa using (hl 0 (by simp)).symm
    simp only [List.length_cons, midSeq, Bool.and_eq_true, decide_eq_true_eq] at hB
    simp only [List.length_cons] at hk
    rw [show (o :: l).length + g = (l.length + g) + 1 by simp; omega]
    refine ⟨fun h1 => (by rw [hB.1] at h1; cases h1), fun i hi => ?_⟩
    rw [hB.1] at hi
    have hik : i = k := by simpa using hi
    subst hik
    have hw : wpOp P ops Q i (wpList P ops (thenQ T Q) l) a w := by
      unfold wpOp
      simp only [h0]
      unfold wpList at h
      split
      · rename_i hw
        rw [if_pos hw] at h
        rcases h with h | h
        · exact .inl (thenQ_wp h)
        · exact .inr ⟨h.1, h.2⟩
      · rename_i hw
        rw [if_neg hw] at h
        exact h
    exact wpOp_mono (fun a' w' h' => wpAny_mid hT l (i + 1) _ a' w' (fun j hj => by have := hl (j + 1) (by simp; omega); simpa [Nat.add_assoc, Nat.add_comm 1 j] using this) (by omega) hB.2 h') hw

def midB (md : Region.Mode) (ops : Array Oper) (n m : Nat) : Bool :=
  Region.noSelect ops && decide (n + m < ops.size) && Region.sinkB md ops n && chainW md ops n && midHead md ops (ops.size - (n + (m + 1))) (m + 1) n 0 (Array.replicate ops.size false)

theorem wp_region_mid {id : Nat} {Q : Exit → Act → World → Prop} {a : Act} {w : World} {l : List Oper} (n m : Nat) (hm : P.follows .mixedOrders = true) (hB : midB .any l.toArray n m = true)
    (h : ∀ T : Act → World → Prop, (∀ a2 w2, wpQuiet P l.toArray (fun w3 => ∃ x, w3 = ext w2 x) (fun a3 => ∀ w3, (∃ x, w3 = ext w2 x) → Q .normal a3 w3) (l.drop (n + (m + 1))) a2 → T a2 w2) →
      wpQuiet P l.toArray (fun w' => ∃ x, w' = ext w x) (fun a' => ∀ w', (∃ x, w' = ext w x) → wpList P l.toArray (thenQ T Q) ((l.drop n).take (m + 1)) a' w') (l.take n) a) :
    (Code.region id l.toArray true).wp P Q a w := by
  simp only [midB, Bool.and_eq_true, decide_eq_true_eq] at hB
  obtain ⟨⟨⟨⟨hsel, hn⟩, hs⟩, hc⟩, hlex⟩ := hB
  have hn' : n + m < l.length := by simpa using hn
  have htl : (l.take n).length = n := by simp; omega
  have htm : ((l.drop n).take (m + 1)).length = m + 1 := by simp; omega
  have inv0 : HeadInv .any l.toArray n (Array.replicate l.toArray.size false) :=
    ⟨by simp, fun j oj _ hl => (by rw [getD_replicate_false] at hl; cases hl), fun t _ ht => getD_in (by simpa using ht) (getD_replicate_false _ _)⟩
  have H := headQ_lex_w (md := .any) (g := l.toArray.size - (n + (m + 1))) (m := m) hsel hs hc (by omega) (l.take n) 0 _ a (fun j hj => by
    have hj' : j < n := by rw [htl] at hj; exact hj
    simp [hj']) (by simpa using htl) inv0 (by rw [htl]; exact hlex) (h (fun a2 w2 => wpQuiet P l.toArray (fun w3 => ∃ x, w3 = ext w2 x) (fun a3 => ∀ w3, (∃ x, w3 = ext w2 x) → Q .normal a3 w3) (l.drop (n + (m + 1))) a2) (fun _ _ h => h))
  refine wp_region_any hm ?_
  have := any_of_headQ (Q := Q) (g := (m + 1) + (l.toArray.size - (n + (m + 1)))) (fun listed a' w' hw hL => by
    have h3 := wpAny_mid (md := .any) (Q := Q) (P := P) (ops := l.toArray) (g := l.toArray.size - (n + (m + 1))) (n := n + (m + 1)) (fun listed a2 w2 hB2 hT => by
      refine wpAny_of_quiet (C := fun w3 => ∃ x, w3 = ext w2 x) (Q := fun a3 => ∀ w3, (∃ x, w3 = ext w2 x) → Q .normal a3 w3) (fun _ w' hw' h => h w' hw') _ _ _ _ (ext_of (Below.refl _ _)) ?_
      have h4 := wpAnyQ_lex (md := .any) (C := fun w3 => ∃ x, w3 = ext w2 x) hsel (l.drop (n + (m + 1))) (n + (m + 1)) listed a2 (fun j => by simp [List.getElem?_drop]) (by rw [show (l.drop (n + (m + 1))).length = l.toArray.size - (n + (m + 1)) by simp]; exact hB2) hT
      rwa [show (l.drop (n + (m + 1))).length = l.toArray.size - (n + (m + 1)) by simp] at h4) ((l.drop n).take (m + 1)) n listed a' w' (fun j hj => by
        have hj' : j < m + 1 := by rw [htm] at hj; exact hj
        simp [hj']) (by rw [htm]) (by rw [htm]; exact hL.1) (hL.2 w' hw)
    rwa [htm] at h3) _ _ _ { w with drawn := w.drawn + 1 } (ext_of (Below.refl _ _).drew) H
  rw [htl, show n + ((m + 1) + (l.toArray.size - (n + (m + 1)))) = l.toArray.size by simp; omega] at this
  exact this

end
end Go.Proofs.YtofjopdcbmaijaaGreat

namespace Go.Proofs.YtofjopdcbmaijaaGreat
open Go Go.RowKit
set_option maxRecDepth 20000
section
variable {P : Program} {ops : Array Oper} {md : Region.Mode}

theorem count_set (l : List Bool) : ∀ i : Nat, l[i]? = some false → (l.set i true).count false + 1 = l.count false := by
  induction l with
  | nil => intro i h; simp at h
  | cons b l ih =>
    intro i h
    cases i with
    | zero =>
      simp only [List.getElem?_cons_zero, Option.some.injEq] at h
      subst h
      simp
    | succ i =>
      simp only [List.getElem?_cons_succ] at h
      have := ih i h
      simp only [List.set_cons_succ, List.count_cons]
      omega
/-- Each operation waits for earlier ones only. -/
def forwardB (md : Region.Mode) (ops : Array Oper) : Bool :=
  (List.range ops.size).all fun j => ((ops[j]?).map fun o => o.after.all fun e => !Region.binds md e || decide (e.on < j)).getD true
theorem forward_spec (h : forwardB md ops = true) {j : Nat} {o : Oper} (ho : ops[j]? = some o) : ∀ e ∈ o.after, Region.binds md e = true → e.on < j := by
  intro e he hb
  have hj : j < ops.size := (Array.getElem?_eq_some_iff.1 ho).1
  have h1 := List.all_eq_true.1 h j (List.mem_range.2 hj)
  rw [ho] at h1
  simp only [Option.map_some, Option.getD_some, Array.all_eq_true_iff_forall_mem, Bool.or_eq_true, Bool.not_eq_true', decide_eq_true_eq] at h1
  rcases h1 e he with h2 | h2
  · rw [hb] at h2; cases h2
  · exact h2
theorem ready_none (hf : forwardB md ops = true) {listed : Array Bool} (hs : listed.size = ops.size) (h : Region.ready md ops listed = []) : ∀ j, j < ops.size → listed.getD j true = true := by
  intro j
  induction j using Nat.strongRecOn with
  | _ j ih =>
    intro hj
    cases hl : listed.getD j true with
    | true => rfl
    | false =>
      have : j ∈ Region.ready md ops listed := mem_ready.2 ⟨hl, ops[j], Array.getElem?_eq_getElem hj, fun e he hb => by
        have h1 := forward_spec hf (Array.getElem?_eq_getElem hj) e he hb
        have h2 := ih e.on h1 (by omega)
        have h3 : e.on < listed.size := by omega
        simp only [Array.getD, h3, dite_true] at h2 ⊢
        exact h2⟩
      rw [h] at this
      cases this
theorem wpAny_inv {Q : Exit → Act → World → Prop} (I : Array Bool → Act → World → Prop) (hf : forwardB md ops = true)
    (hstep : ∀ listed a w i, I listed a w → i ∈ Region.ready md ops listed → wpOp P ops Q i (I (listed.setIfInBounds i true)) a w)
    (hend : ∀ listed a w, I listed a w → (∀ j, j < ops.size → listed.getD j true = true) → Q .normal a w) :
    ∀ (fuel : Nat) (listed : Array Bool) (a : Act) (w : World), listed.size = ops.size → listed.toList.count false = fuel → I listed a w → wpAny P md ops Q fuel listed a w := by
  intro fuel
  induction fuel with
  | zero =>
    intro listed a w hs hc hI
    have hno : false ∉ listed.toList := List.count_eq_zero.1 hc
    have hall : ∀ j, j < ops.size → listed.getD j true = true := fun j hj => by
      have hj' : j < listed.size := by omega
      rw [show listed.getD j true = listed[j] by simp [Array.getD, hj']]
      cases hb : listed[j] with
      | true => rfl
      | false => exact absurd (by rw [← hb]; simp) hno
    refine ⟨?_, hend listed a w hI hall⟩
    cases hr : Region.ready md ops listed with
    | nil => rfl
    | cons j js =>
      have hj : j ∈ Region.ready md ops listed := by rw [hr]; exact List.mem_cons_self
      obtain ⟨h1, o, ho, _⟩ := mem_ready.1 hj
      have := hall j (Array.getElem?_eq_some_iff.1 ho).1
      rw [h1] at this
      cases this
  | succ fuel ih =>
    intro listed a w hs hc hI
    refine ⟨fun hr => hend listed a w hI (ready_none hf hs hr), fun i hi => ?_⟩
    refine wpOp_mono (fun a' w' h' => ih _ a' w' (by simpa using hs) ?_ h') (hstep listed a w i hI hi)
    obtain ⟨h1, o, ho, _⟩ := mem_ready.1 hi
    have hj : i < listed.size := by rw [hs]; exact (Array.getElem?_eq_some_iff.1 ho).1
    simp only [Array.getD, hj, dite_true] at h1
    have h2 := count_set listed.toList i (by rw [Array.getElem?_toList, Array.getElem?_eq_getElem hj]; exact congrArg some h1)
    rw [Array.toList_setIfInBounds]
    omega
theorem wp_region_inv {id : Nat} {Q : Exit → Act → World → Prop} {a : Act} {w : World} {l : List Oper} (I : Array Bool → Act → World → Prop) (hm : P.follows .mixedOrders = true) (hf : forwardB .any l.toArray = true)
    (h0 : I (Array.replicate l.length false) a { w with drawn := w.drawn + 1 })
    (hstep : ∀ listed a w i, I listed a w → i ∈ Region.ready .any l.toArray listed → wpOp P l.toArray Q i (I (listed.setIfInBounds i true)) a w)
    (hend : ∀ listed a w, I listed a w → (∀ j, j < l.length → listed.getD j true = true) → Q .normal a w) : (Code.region id l.toArray true).wp P Q a w := by
  refine wp_region_any hm ?_
  refine wpAny_inv I hf hstep (fun listed a w h1 h2 => hend listed a w h1 (fun j hj => h2 j (by simpa using hj))) _ _ _ _ (by simp) ?_ ?_
  · simp
  · simpa using h0
theorem wpOp_of_list {Q : Exit → Act → World → Prop} {T : Act → World → Prop} {i : Nat} {o : Oper} {a : Act} {w : World} (h0 : ops[i]? = some o) (h : wpList P ops (thenQ T Q) [o] a w) : wpOp P ops Q i T a w := by
  unfold wpOp
  simp only [h0]
  unfold wpList at h
  split
  · rename_i hw
    rw [if_pos hw] at h
    rcases h with h | h
    · exact .inl (thenQ_wp h)
    · exact .inr ⟨h.1, h.2⟩
  · rename_i hw
    rw [if_neg hw] at h
    exact h
end
end Go.Proofs.YtofjopdcbmaijaaGreat

namespace Go.Proofs.YtofjopdcbmaijaaGreat
open Go.RowKit
set_option maxRecDepth 20000

set_option maxRecDepth 100000 in
set_option maxHeartbeats 4000000 in
theorem refRun_v (l : List Br) (v : Value) (r : Rn) (q : Bool) (hq : runB l r = q) (hs : ∀ b ∈ l, shapeB b = true) (w : World) (hl : Bars w v l) :
    Calls Tryz.prog 36 #[v, (.agg #[.string r.mark, .int .i64 r.tx, .int .i64 r.ty, .int .i64 r.ax, .int .i64 r.ay, .int .i64 r.az, .int .i64 r.sx, .int .i64 r.sy, .int .i64 r.sz, .int .i64 r.count])] w (Ret w (.bool q)) := by
  have HF := Lib.hid (fun w hl => refFind_c l v r.mark w hl)
  have HT := Lib.hid (fun q h w => refTurn_v r.tx r.ty q h w)
  have HA := Lib.hid (fun q h w => refNear15_v ⟨r.ax, r.ay, r.az⟩ q h w)
  have HS := Lib.hid (fun q h w => refTwice_v ⟨r.sx, r.sy, r.sz⟩ q h w)
  have HL := Lib.hid hl
  rw [runB_eq] at hq
  have HQ := Lib.hid hq
  have HB := Lib.hid hs
  obtain ⟨ok, HK⟩ : ∃ q, Hid (right1 l r = q) := ⟨_, Lib.hid rfl⟩
  obtain ⟨K, HKK⟩ : ∃ K, Hid (findI l r.mark = K) := ⟨_, Lib.hid rfl⟩
  rw [HKK.out] at HF
  obtain ⟨ok2, HK2⟩ : ∃ q, Hid (right2 r = q) := ⟨_, Lib.hid rfl⟩
  clear hs hl hq
  go_enter Tryz.func36, Tryz.ntmps36
  go_wp2_with fail
  go_at_call 77; refine (HF.out _ (HL.out.below (by (repeat (first | exact grow_refl _ | refine grow_ext _ ?_ | refine grow_alloc _ ?_ | refine grow_drew ?_))))).mono ?_; rintro e w' ⟨rfl, xf, rfl⟩
  go_upto_region 2 with fail
  refine world_mask (fun W => (∃ x, W = ext w x) ∧ Blk W w.heap.size (rnCells r) 89) _ ⟨ext_of (by (repeat (first | exact grow_refl _ | refine grow_ext _ ?_ | refine grow_alloc _ ?_ | refine grow_drew ?_))), (Blk.new' rfl _ _).ext _⟩ ?_
  rintro W1 ⟨⟨x, rfl⟩, hR⟩
  have c0 : (ext w x).cell? ⟨w.heap.size, 0, none⟩ = some (.string r.mark) := hR.cell 0
  have c1 : (ext w x).cell? ⟨w.heap.size, 1, none⟩ = some (.int .i64 r.tx) := hR.cell 1
  have c2 : (ext w x).cell? ⟨w.heap.size, 2, none⟩ = some (.int .i64 r.ty) := hR.cell 2
  have c3 : (ext w x).cell? ⟨w.heap.size, 3, none⟩ = some (.int .i64 r.ax) := hR.cell 3
  have c4 : (ext w x).cell? ⟨w.heap.size, 4, none⟩ = some (.int .i64 r.ay) := hR.cell 4
  have c5 : (ext w x).cell? ⟨w.heap.size, 5, none⟩ = some (.int .i64 r.az) := hR.cell 5
  have c6 : (ext w x).cell? ⟨w.heap.size, 6, none⟩ = some (.int .i64 r.sx) := hR.cell 6
  have c7 : (ext w x).cell? ⟨w.heap.size, 7, none⟩ = some (.int .i64 r.sy) := hR.cell 7
  have c8 : (ext w x).cell? ⟨w.heap.size, 8, none⟩ = some (.int .i64 r.sz) := hR.cell 8
  have c9 : (ext w x).cell? ⟨w.heap.size, 9, none⟩ = some (.int .i64 r.count) := hR.cell 9
  have HRB := Lib.hid hR
  clear hR
  obtain ⟨W1, hW1⟩ : ∃ W, W = ext w x := ⟨_, rfl⟩
  have HW1 := Lib.hid hW1
  rw [← hW1] at c0 c1 c2 c3 c4 c5 c6 c7 c8 c9 HRB ⊢
  clear hW1
  have HL1 := Lib.hid (show Bars W1 v l by rw [HW1.out]; exact HL.out.ext _)
  obtain ⟨mark, tx, ty, ax, ay, az, sx, sy, sz, count⟩ := r
  simp only at *
  go_cut [33] (fun s wx => s = .bool (!ok) ∧ ∃ x, wx = ext W1 x)
  case first =>
    have hok := HK.out
    unfold right1 at hok
    simp only [HKK.out] at hok
    by_cases h1 : 0 ≤ K
    · rw [decide_eq_true h1, Bool.true_and] at hok
      cases h2 : turnB tx ty
      · obtain rfl : false = ok := by rw [← hok, h2]; rfl
        have H2 := Lib.hid h2
        clear h2 hok
        go_wp2_with fail
        go_at_call 78; refine (HT.out _ H2.out _).mono ?_; rintro e w' ⟨rfl, y2, rfl⟩
        go_wp2
        go_meet
        exact ⟨rfl, ext_of (by (repeat (first | exact grow_refl _ | refine grow_ext _ ?_ | refine grow_alloc _ ?_ | refine grow_drew ?_)))⟩
      · rw [h2, Bool.true_and] at hok
        have H2 := Lib.hid h2
        clear h2
        by_cases h3 : 1 ≤ count
        · rw [decide_eq_true h3, Bool.true_and] at hok
          by_cases h4 : count ≤ 1000
          · rw [decide_eq_true h4, Bool.true_and] at hok
            have H5 := Lib.hid hok
            clear hok
            go_wp2_with fail
            go_at_call 78; refine (HT.out _ H2.out _).mono ?_; rintro e w' ⟨rfl, y2, rfl⟩
            go_wp2_with fail
            go_at_call 79; refine (HA.out _ H5.out _).mono ?_; rintro e w' ⟨rfl, y3, rfl⟩
            go_wp2
            go_meet
            exact ⟨by rw [decide_eq_false (by omega : ¬ K < 0), decide_eq_false (by omega : ¬ count < 1), decide_eq_false (by omega : ¬ 1000 < count)]; rfl, ext_of (by (repeat (first | exact grow_refl _ | refine grow_ext _ ?_ | refine grow_alloc _ ?_ | refine grow_drew ?_)))⟩
          · obtain rfl : false = ok := by rw [← hok, decide_eq_false h4]; rfl
            clear hok
            go_wp2_with fail
            go_at_call 78; refine (HT.out _ H2.out _).mono ?_; rintro e w' ⟨rfl, y2, rfl⟩
            go_wp2
            go_meet
            exact ⟨rfl, ext_of (by (repeat (first | exact grow_refl _ | refine grow_ext _ ?_ | refine grow_alloc _ ?_ | refine grow_drew ?_)))⟩
        · obtain rfl : false = ok := by rw [← hok, decide_eq_false h3]; rfl
          clear hok
          go_wp2_with fail
          go_at_call 78; refine (HT.out _ H2.out _).mono ?_; rintro e w' ⟨rfl, y2, rfl⟩
          go_wp2
          go_meet
          exact ⟨rfl, ext_of (by (repeat (first | exact grow_refl _ | refine grow_ext _ ?_ | refine grow_alloc _ ?_ | refine grow_drew ?_)))⟩
    · obtain rfl : false = ok := by rw [← hok, decide_eq_false h1]; rfl
      clear hok
      go_wp2
      go_meet
      exact ⟨rfl, ext_of (by (repeat (first | exact grow_refl _ | refine grow_ext _ ?_ | refine grow_alloc _ ?_ | refine grow_drew ?_)))⟩
  case rest =>
    obtain ⟨rfl, y, rfl⟩ := hcut
    have hq := HQ.out
    rw [HK.out] at hq
    cases ok
    · obtain rfl : false = q := by rw [← hq]; rfl
      clear hq
      go_wp2
      go_ret
      exact Ret.of (by rw [HW1.out]; (repeat (first | exact grow_refl _ | refine grow_ext _ ?_ | refine grow_alloc _ ?_ | refine grow_drew ?_)))
    rw [Bool.true_and] at hq
    have HQ2 := Lib.hid hq
    clear hq HQ
    have hr := HK.out
    unfold right1 at hr
    simp only [Bool.and_eq_true, decide_eq_true_iff] at hr
    obtain ⟨k1, k2, k3, k4, k5⟩ := hr
    rw [HKK.out] at k1
    have HT2 := Lib.hid k2
    have HA5 := Lib.hid (near_iff.1 k5)
    clear k2 k5 HA HT HF
    go_upto_region 4 with fail
    go_cut [48] (fun s wx => s = .bool (!ok2) ∧ ∃ x, wx = ext W1 x)
    case first =>
      have hok := HK2.out
      unfold right2 at hok
      simp only at hok
      by_cases h1 : 1 < count
      · rw [decide_eq_false (by omega), Bool.false_or] at hok
        cases h3 : nearB ⟨sx, sy, sz⟩ 2097152
        all_goals
          rw [h3] at hok
          have H3 := Lib.hid h3
          clear h3
          by_cases a1 : sx = 0
          · by_cases a2 : sy = 0
            · by_cases a3 : sz = 0
              · obtain rfl : false = ok2 := by rw [← hok, a1, a2, a3]; rfl
                subst a1 a2 a3
                clear hok HS H3
                go_wp2
                go_meet
                exact ⟨rfl, ext_of (by (repeat (first | exact grow_refl _ | refine grow_ext _ ?_ | refine grow_alloc _ ?_ | refine grow_drew ?_)))⟩
              · have e3 : (sz == 0) = false := by simpa using a3
                simp [a3] at hok
                subst hok a1 a2
                go_wp2_with fail
                go_at_call 80; refine (HS.out _ H3.out _).mono ?_; rintro e w' ⟨rfl, y5, rfl⟩
                go_wp2
                go_meet
                exact ⟨rfl, ext_of (by (repeat (first | exact grow_refl _ | refine grow_ext _ ?_ | refine grow_alloc _ ?_ | refine grow_drew ?_)))⟩
            · have e3 : (sy == 0) = false := by simpa using a2
              simp [a2] at hok
              subst hok a1
              go_wp2_with fail
              go_at_call 80; refine (HS.out _ H3.out _).mono ?_; rintro e w' ⟨rfl, y5, rfl⟩
              go_wp2
              go_meet
              exact ⟨rfl, ext_of (by (repeat (first | exact grow_refl _ | refine grow_ext _ ?_ | refine grow_alloc _ ?_ | refine grow_drew ?_)))⟩
          · have e3 : (sx == 0) = false := by simpa using a1
            simp [a1] at hok
            subst hok
            go_wp2_with fail
            go_at_call 80; refine (HS.out _ H3.out _).mono ?_; rintro e w' ⟨rfl, y5, rfl⟩
            go_wp2
            go_meet
            exact ⟨rfl, ext_of (by (repeat (first | exact grow_refl _ | refine grow_ext _ ?_ | refine grow_alloc _ ?_ | refine grow_drew ?_)))⟩
      · rw [decide_eq_true (by omega), Bool.true_or] at hok
        subst hok
        go_wp2
        go_meet
        exact ⟨rfl, ext_of (by (repeat (first | exact grow_refl _ | refine grow_ext _ ?_ | refine grow_alloc _ ?_ | refine grow_drew ?_)))⟩
    case rest =>
      obtain ⟨rfl, y2, rfl⟩ := hcut
      have hq := HQ2.out
      rw [HK2.out] at hq
      cases ok2
      · obtain rfl : false = q := by rw [← hq]; rfl
        clear hq
        go_wp2
        go_ret
        exact Ret.of (by rw [HW1.out]; (repeat (first | exact grow_refl _ | refine grow_ext _ ?_ | refine grow_alloc _ ?_ | refine grow_drew ?_)))
      rw [Bool.true_and] at hq
      have hsm := HK2.out
      unfold right2 at hsm
      simp only [Bool.or_eq_true, Bool.and_eq_true, decide_eq_true_iff] at hsm
      have HSM := Lib.hid (show 1 < count → NearP ⟨sx, sy, sz⟩ 2097152 from fun h => by
        rcases hsm with h' | h'
        · omega
        · exact near_iff.1 h'.2)
      clear hsm HS HQ2
      have hsm := HK2.out
      unfold right2 at hsm
      simp only [Bool.or_eq_true, Bool.and_eq_true, decide_eq_true_iff] at hsm
      have hstep : 1 < count → NearP ⟨sx, sy, sz⟩ 2097152 := fun h => by
        rcases hsm with h' | h'
        · omega
        · exact near_iff.1 h'.2
      clear hsm
      rcases findI_cases l mark with ⟨e, -⟩ | ⟨k, hkl, e, -, -⟩
      · rw [HKK.out] at e; omega
      obtain rfl : K = (k : Int) := by rw [← HKK.out, e]
      have hbm : barOf l mark = l[k] := by unfold barOf; rw [e]; simp [hkl]
      have hbs := HB.out _ (List.getElem_mem hkl)
      obtain ⟨va, vc, rfl, v2, v3, v4⟩ := HL1.out.shape
      obtain ⟨hok, b0, off, ea, hbr⟩ := v4 k hkl
      subst ea
      rw [hbm] at hq
      obtain ⟨b, hb⟩ : ∃ b, l[k] = b := ⟨_, rfl⟩
      rw [hb] at hq hbs hok hbr
      have hbr := hbr.ext y2
      obtain ⟨b1, b2, b3, b4, b5⟩ := hbr
      have c0 := cell_ext_some c0 y2
      have c1 := cell_ext_some c1 y2
      have c2 := cell_ext_some c2 y2
      have c3 := cell_ext_some c3 y2
      have c4 := cell_ext_some c4 y2
      have c5 := cell_ext_some c5 y2
      have c6 := cell_ext_some c6 y2
      have c7 := cell_ext_some c7 y2
      have c8 := cell_ext_some c8 y2
      have c9 := cell_ext_some c9 y2
      have HOK := Lib.hid hok
      have PT0 := Lib.hid (fun w hb => refPoints_c b ⟨mark, tx, ty, ax, ay, az, sx, sy, sz, count⟩ 0 hbs HT2.out HA5.out (by omega) (fun h => absurd h (by omega)) w hb)
      have PT1 := Lib.hid (fun w hb => refPoints_c b ⟨mark, tx, ty, ax, ay, az, sx, sy, sz, count⟩ (count - 1) hbs HT2.out HA5.out (by omega) (fun h => hstep (by omega)) w hb)
      generalize laidL b ⟨mark, tx, ty, ax, ay, az, sx, sy, sz, count⟩ 0 = L0 at *
      generalize laidL b ⟨mark, tx, ty, ax, ay, az, sx, sy, sz, count⟩ (count - 1) = L1 at *
      simp only at PT0 PT1
      have q1 : (0 : Int) ≤ (k : Int) := by omega
      have q2 : (k : Int) < (l.length : Int) := by omega
      have u1 : IntKind.i64.wrap (count - 1) = count - 1 := IntWalk.i64_in _ (by omega)
      have NR1 := Lib.hid (fun r h v w hl => refNear16_v L1 v r h w hl)
      clear hstep hbm hb hbs hok v4 hkl e k1
      cases hn : L0.all fun p => nearB p 1048576
      · obtain rfl : false = q := by rw [← hq, hn]; rfl
        have NR0 := Lib.hid (fun v w hl => refNear16_v L0 v false hn w hl)
        clear hq hn NR1 PT1
        go_wp2_with fail
        refine wp_region_mid 5 2 (by kernel_rfl) (by kernel_rfl) ?_; intro T hT; have HT9 := Lib.hid hT; clear hT; simp only [List.take_succ_cons, List.take_zero, List.drop_succ_cons, List.drop_zero]
        repeat (go_big_quiet_step (fail))
        refine wpQuiet_nil ?_; rintro _ ⟨xq, rfl⟩
        go_wp2_with fail
        have hq0 := PT0.out _ (HOK.out.below (w' := ext (ext W1 y2) xq) (by (repeat (first | exact grow_refl _ | refine grow_ext _ ?_ | refine grow_alloc _ ?_ | refine grow_drew ?_))))
        refine Calls.mono hq0 ?_
        rintro e w' ⟨v54, rfl, hown, x54, rfl⟩; have H54 := Lib.hid (Pts.of_own hown); clear hown hq0
        go_wp2_with (go_at_call 81; refine Calls.mono (NR0.out _ _ H54.out) ?_; rintro e w' ⟨rfl, x55, rfl⟩; clear H54)
        refine HT9.out _ _ ?_
        simp only [List.drop_succ_cons, List.drop_zero]
        repeat (go_big_quiet_step (fail))
        refine wpQuiet_nil ?_; rintro _ ⟨xq, rfl⟩
        go_wp2
        go_ret
        exact Ret.of (by rw [HW1.out]; (repeat (first | exact grow_refl _ | refine grow_ext _ ?_ | refine grow_alloc _ ?_ | refine grow_drew ?_)))
      · rw [hn, Bool.true_and] at hq
        have NR0 := Lib.hid (fun v w hl => refNear16_v L0 v true hn w hl)
        have NR1 := Lib.hid (fun v w hl => NR1.out q hq v w hl)
        clear hq hn
        go_wp2_with fail
        go_region_held3 (fun w' => w'.cell? ⟨w.heap.size, 0, none⟩ = some (.string mark) ∧ w'.cell? ⟨w.heap.size, 1, none⟩ = some (.int .i64 tx) ∧ w'.cell? ⟨w.heap.size, 2, none⟩ = some (.int .i64 ty) ∧ w'.cell? ⟨w.heap.size, 3, none⟩ = some (.int .i64 ax) ∧ w'.cell? ⟨w.heap.size, 4, none⟩ = some (.int .i64 ay) ∧ w'.cell? ⟨w.heap.size, 5, none⟩ = some (.int .i64 az) ∧ w'.cell? ⟨w.heap.size, 6, none⟩ = some (.int .i64 sx) ∧ w'.cell? ⟨w.heap.size, 7, none⟩ = some (.int .i64 sy) ∧ w'.cell? ⟨w.heap.size, 8, none⟩ = some (.int .i64 sz) ∧ w'.cell? ⟨w.heap.size, 9, none⟩ = some (.int .i64 count) ∧
            w'.cell? ⟨b0, off + k * 5, none⟩ = some (.string b.mark) ∧ w'.cell? ⟨b0, off + k * 5 + 1, none⟩ = some (.int .i64 b.size) ∧ w'.cell? ⟨b0, off + k * 5 + 2, none⟩ = some (.int .i64 b.count) ∧ w'.cell? ⟨b0, off + k * 5 + 3, none⟩ = some (.int .i64 b.code) ∧ w'.cell? ⟨b0, off + k * 5 + 4, none⟩ = some b.dv) (simp [go_sem, *])
          (first
            | (go_at_call_of 82 (Value.int IntKind.i64 0); refine Calls.mono (PT0.out _ (HOK.out.below (by (repeat (first | exact grow_refl _ | refine grow_ext _ ?_ | refine grow_alloc _ ?_ | refine grow_drew ?_))))) ?_; rintro e w' ⟨v54, rfl, hown, x54, rfl⟩; try (rw [ext_drew] at hown); have H54 := Lib.hid (Pts.of_own hown); clear hown)
            | (go_at_call 82; refine Calls.mono (PT1.out _ (HOK.out.below (by (repeat (first | exact grow_refl _ | refine grow_ext _ ?_ | refine grow_alloc _ ?_ | refine grow_drew ?_))))) ?_; rintro e w' ⟨v65, rfl, hown, x65, rfl⟩)
            | (go_at_call_of 81 v54; refine Calls.mono (NR0.out _ _ H54.out) ?_; rintro e w' ⟨rfl, x55, rfl⟩; clear H54)
            | (go_at_call 81; refine Calls.mono (NR1.out _ _ (Pts.of_own hown)) ?_; rintro e w' ⟨rfl, x66, rfl⟩; clear hown))
        all_goals
          go_wp2
          go_ret
          exact Ret.of (by rw [HW1.out]; (repeat (first | exact grow_refl _ | refine grow_ext _ ?_ | refine grow_alloc _ ?_ | refine grow_drew ?_)))

end Go.Proofs.YtofjopdcbmaijaaGreat

