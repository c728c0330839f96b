/- Mid, InvR, RefL8 in one text. -/
import Derived.Test.YtmhhohancconaaaGreatExtK
import Derived.Test.YtmhhohancconaaaGreatRefLK2
import Derived.Test.YtmhhohancconaaaGreatLaidK3
namespace Go.Proofs.YtmhhohancconaaaGreat
open Go Go.RowKit
set_option maxRecDepth 20000
section
variable {P : Program} {ops : Array Oper} {md : Region.Mode} {C : World → Prop}

/-- Each operation behind n waits for one of those from n on. -/
def chainW (md : Region.Mode) (ops : Array Oper) (n : Nat) : Bool :=
  (List.range ops.size).all fun t => decide (t ≤ n) || (List.range t).any fun j => decide (n ≤ j) && Region.waitsFor md ops t j

theorem tail_waits_w {n : Nat} {listed : Array Bool} (hs : Region.sinkB md ops n = true) (hc : chainW md ops n = true) (hn : n < ops.size) (inv : HeadInv md ops n listed) :
    ∀ (d i : Nat), n - i = d → i < n → listed.getD i true = false → ∀ t, n ≤ t → t ∉ Region.ready md ops listed := by
  intro d
  induction d using Nat.strongRecOn with
  | _ d ih =>
    intro i hd hi hun t ht hr
    obtain ⟨_, ot, hot, hall⟩ := mem_ready.1 hr
    have htlt : t < ops.size := (Array.getElem?_eq_some_iff.1 hot).1
    by_cases htn : t = n
    · subst htn
      have h1 := List.all_eq_true.1 hs i (List.mem_range.2 hi)
      obtain ⟨j, hj, hj2⟩ := List.any_eq_true.1 h1
      simp only [Bool.and_eq_true, decide_eq_true_eq] at hj2
      obtain ⟨oj, hoj, e, he, hb, hon⟩ := Region.waitsFor_spec hj2.2
      have hjle : j ≤ t := by have := List.mem_range.1 hj; omega
      by_cases hjt : j = t
      · subst hjt
        have : oj = ot := Option.some.inj (hoj.symm.trans hot)
        subst this
        have h2 := hall e he hb
        rw [hon, getD_both hun] at h2
        cases h2
      · cases hl : listed.getD j false with
        | true =>
          have h2 := inv.closed j oj hoj hl e he hb
          rw [hon, getD_both hun] at h2
          cases h2
        | false =>
          have hjs : j < listed.size := by rw [inv.size]; omega
          exact ih (t - j) (by omega) j rfl (by omega) (getD_in hjs hl) t (Nat.le_refl _) hr
    · have h1 := List.all_eq_true.1 hc t (List.mem_range.2 htlt)
      simp only [Bool.or_eq_true, decide_eq_true_eq] at h1
      rcases h1 with h1 | h1
      · omega
      · obtain ⟨j, hj, hj2⟩ := List.any_eq_true.1 h1
        simp only [Bool.and_eq_true, decide_eq_true_eq] at hj2
        obtain ⟨o', ho', e, he, hb, hon⟩ := Region.waitsFor_spec hj2.2
        have hjt : j < t := List.mem_range.1 hj
        have : o' = ot := Option.some.inj (ho'.symm.trans hot)
        subst this
        have h2 := hall e he hb
        rw [hon, getD_both (inv.tail j hj2.1 (by omega))] at h2
        cases h2

theorem ready_lt_w {n i j : Nat} {listed : Array Bool} (hs : Region.sinkB md ops n = true) (hc : chainW md ops n = true) (hn : n < ops.size) (inv : HeadInv md ops n listed)
    (hi : i ∈ Region.ready md ops listed) (hin : i < n) (hj : j ∈ Region.ready md ops listed) : j < n := by
  rcases Nat.lt_or_ge j n with h | h
  · exact h
  · exact absurd hj (tail_waits_w hs hc hn inv _ i rfl hin (mem_ready.1 hi).1 j h)

theorem headQ_take_w {n i : Nat} {oi : Oper} {v : Value} {G : Array Bool → Act → Prop} (hi : ops[i]? = some oi) (hsel : ∀ (j : Nat) (o : Oper) cs b, ops[j]? = some o → o.op ≠ .select cs b)
    (hs : Region.sinkB md ops n = true) (hc : chainW md ops n = true) (hn : n < ops.size) (hin : i < n) (hG : ∀ listed a, G listed a → ∀ j ∈ Region.ready md ops listed, n ≤ j) (f : Nat) :
    ∀ (listed : Array Bool) (a : Act), HeadInv md ops n listed →
      (∀ j oj, ops[j]? = some oj → j ≠ i → listed.getD j true = false → (∀ e ∈ oj.after, Region.binds md e = true → e.on ≠ i) → oi.apart ops oj = true) →
      i ∈ Region.ready md ops listed → YieldsIn P ops C oi v a →
      headQ P md ops C n G f (listed.setIfInBounds i true) (a.put oi.dst v) → headQ P md ops C n G (f + 1) listed a := by
  induction f with
  | zero =>
    intro listed a inv _ hr hy H
    refine ⟨fun h => (by rw [h] at hr; cases hr), fun j hj => ?_⟩
    have hjn := ready_lt_w hs hc hn inv hr hin hj
    by_cases hji : j = i
    · subst hji; exact ⟨hjn, hy.qOp hi H⟩
    · have := hG _ _ H j (ready_mono hj hji)
      omega
  | succ f ih =>
    intro listed a inv hfree hr hy H
    refine ⟨fun h => (by rw [h] at hr; cases hr), fun j hj => ?_⟩
    have hjn := ready_lt_w hs hc hn inv hr hin hj
    refine ⟨hjn, ?_⟩
    by_cases hji : j = i
    · subst hji; exact hy.qOp hi H
    · obtain ⟨hjun, oj, hoj, hall⟩ := mem_ready.1 hj
      have hun := (mem_ready.1 hr).1
      have hnot : ∀ e ∈ oj.after, Region.binds md e = true → e.on ≠ i := fun e he hb heq => by
        have h1 := hall e he hb
        rw [heq, getD_both hun] at h1
        cases h1
      have h2 := qOp_put hoj (hfree j oj hoj hji hjun hnot) (fun cs b => hsel i oi cs b hi) (fun cs b => hsel j oj cs b hoj) hy (H.2 j (ready_mono hj hji)).2
      refine qOp_mono (fun a' h3 => ih (listed.setIfInBounds j true) a' (inv.set hj hjn) (fun k ok hk hki hkun hno => ?_) (ready_mono hr (Ne.symm hji)) h3.1 ?_) h2
      · refine hfree k ok hk hki ?_ hno
        by_cases hjk : j = k
        · subst hjk; exact hjun
        · rw [getD_set_ne true hjk] at hkun; exact hkun
      · rw [Array.setIfInBounds_comm _ _ hji]
        exact h3.2

/-- f operations from k on, each the only one that may come up; then the rest, g of them, by the lexical order. -/
def midSeq (md : Region.Mode) (ops : Array Oper) (g : Nat) : Nat → Nat → Array Bool → Bool
  | 0, k, listed => Region.lexFrom md ops g k listed
  | f + 1, k, listed => decide (Region.ready md ops listed = [k]) && midSeq md ops g f (k + 1) (listed.setIfInBounds k true)

def midHead (md : Region.Mode) (ops : Array Oper) (g m : Nat) : Nat → Nat → Array Bool → Bool
  | 0, k, listed => midSeq md ops g m k listed
  | f + 1, k, listed => (Region.ready md ops listed).contains k && Region.free md ops listed k && midHead md ops g m f (k + 1) (listed.setIfInBounds k true)

theorem midSeq_ready {g m k : Nat} {listed : Array Bool} (h : midSeq md ops g (m + 1) k listed = true) : ∀ j ∈ Region.ready md ops listed, k ≤ j := by
  intro j hj
  simp only [midSeq, Bool.and_eq_true, decide_eq_true_eq] at h
  rw [h.1] at hj
  have : j = k := by simpa using hj
  omega

theorem headQ_lex_w {n g m : Nat} {G : Act → Prop} (hsel : Region.noSelect ops = true) (hs : Region.sinkB md ops n = true) (hc : chainW md ops n = true) (hn : n < ops.size) (l : List Oper) :
    ∀ (k : Nat) (listed : Array Bool) (a : Act), (∀ j, j < l.length → l[j]? = ops[k + j]?) → k + l.length = n → HeadInv md ops n listed →
    midHead md ops g (m + 1) l.length k listed = true → wpQuiet P ops C G l a →
    headQ P md ops C n (fun listed' a' => midSeq md ops g (m + 1) n listed' = true ∧ G a') l.length listed a := by
  induction l with
  | nil =>
    intro k listed a _ hk _ hB h
    have : k = n := by simpa using hk
    subst this
    exact ⟨by simpa [midHead] using hB, h⟩
  | cons o l ih =>
    intro k listed a hl hk inv hB h
    have h0 : ops[k]? = some o := by simpa using (hl 0 (by simp)).symm
    simp only [List.length_cons, midHead, Bool.and_eq_true] at hB
    obtain ⟨⟨hr, hf⟩, hB'⟩ := hB
    simp only [List.length_cons] at hk
    have hr' : k ∈ Region.ready md ops listed := by simpa using hr
    have hq : qOp P ops C k (wpQuiet P ops C G l) a := by unfold qOp; simp only [h0]; exact h
    obtain ⟨v, hy, hK⟩ := yieldsIn_of_qOp h0 hq
    exact headQ_take_w h0 (Region.noSelect_spec hsel) hs hc hn (by omega) (fun listed' a' hL => midSeq_ready hL.1) l.length listed a inv (Region.free_spec h0 hf) hr' hy
      (ih (k + 1) _ _ (fun j hj => by have := hl (j + 1) (by simp; omega); simpa [Nat.add_assoc, Nat.add_comm 1 j] using this) (by omega) (inv.set hr' (by omega)) hB' hK)

/-- At its normal end T, else Q. -/
def thenQ (T : Act → World → Prop) (Q : Exit → Act → World → Prop) : Exit → Act → World → Prop
  | .normal, a, w => T a w
  | e, a, w => Q e a w

theorem thenQ_wp {T : Act → World → Prop} {Q : Exit → Act → World → Prop} {o : Oper} {a : Act} {w : World} {K : Act → World → Prop} (h : o.wp P a w K (thenQ T Q)) : o.wp P a w K Q := by
  unfold Oper.wp at h ⊢
  generalize (execOp a.eval o).run P w = r at h ⊢
  cases r with
  | ok n w' => cases n <;> first | exact h | (refine Calls.mono h ?_; intro e w2 he; cases e <;> exact he)
  | _ => exact h

theorem wpAny_mid {T : Act → World → Prop} {Q : Exit → Act → World → Prop} {g n : Nat} (hT : ∀ listed a w, Region.lexFrom md ops g n listed = true → T a w → wpAny P md ops Q g listed a w) :
    ∀ (l : List Oper) (k : Nat) (listed : Array Bool) (a : Act) (w : World), (∀ j, j < l.length → l[j]? = ops[k + j]?) → k + l.length = n →
    midSeq md ops g l.length k listed = true → wpList P ops (thenQ T Q) l a w → wpAny P md ops Q (l.length + g) listed a w
  | [], k, listed, a, w, _, hk, hB, h => by
    have : k = n := by simpa using hk
    subst this
    rw [show ([] : List Oper).length + g = g by simp]
    exact hT _ _ _ (by simpa [midSeq] using hB) h
  | o :: l, k, listed, a, w, hl, hk, hB, h => by
    have h0 : ops[k]? = some o := by simpa using (hl 0 (by simp)).symm
    simp only [List.length_cons, midSeq, Bool.and_eq_true, decide_eq_true_eq] at hB
    simp only [List.length_cons] at hk
    rw [show (o :: l).length + g = (l.length + g) + 1 by simp; omega]
    refine ⟨fun h1 => (by rw [hB.1] at h1; cases h1), fun i hi => ?_⟩
    rw [hB.1] at hi
    have hik : i = k := by simpa using hi
    subst hik
    have hw : wpOp P ops Q i (wpList P ops (thenQ T Q) l) a w := by
      unfold wpOp
      simp only [h0]
      unfold wpList at h
      split
      · rename_i hw
        rw [if_pos hw] at h
        rcases h with h | h
        · exact .inl (thenQ_wp h)
        · exact .inr ⟨h.1, h.2⟩
      · rename_i hw
        rw [if_neg hw] at h
        exact h
    exact wpOp_mono (fun a' w' h' => wpAny_mid hT l (i + 1) _ a' w' (fun j hj => by have := hl (j + 1) (by simp; omega); simpa [Nat.add_assoc, Nat.add_comm 1 j] using this) (by omega) hB.2 h') hw

def midB (md : Region.Mode) (ops : Array Oper) (n m : Nat) : Bool :=
  Region.noSelect ops && decide (n + m < ops.size) && Region.sinkB md ops n && chainW md ops n && midHead md ops (ops.size - (n + (m + 1))) (m + 1) n 0 (Array.replicate ops.size false)

theorem wp_region_mid {id : Nat} {Q : Exit → Act → World → Prop} {a : Act} {w : World} {l : List Oper} (n m : Nat) (hm : P.follows .mixedOrders = true) (hB : midB .any l.toArray n m = true)
    (h : ∀ T : Act → World → Prop, (∀ a2 w2, wpQuiet P l.toArray (fun w3 => ∃ x, w3 = ext w2 x) (fun a3 => ∀ w3, (∃ x, w3 = ext w2 x) → Q .normal a3 w3) (l.drop (n + (m + 1))) a2 → T a2 w2) →
      wpQuiet P l.toArray (fun w' => ∃ x, w' = ext w x) (fun a' => ∀ w', (∃ x, w' = ext w x) → wpList P l.toArray (thenQ T Q) ((l.drop n).take (m + 1)) a' w') (l.take n) a) :
    (Code.region id l.toArray true).wp P Q a w := by
  simp only [midB, Bool.and_eq_true, decide_eq_true_eq] at hB
  obtain ⟨⟨⟨⟨hsel, hn⟩, hs⟩, hc⟩, hlex⟩ := hB
  have hn' : n + m < l.length := by simpa using hn
  have htl : (l.take n).length = n := by simp; omega
  have htm : ((l.drop n).take (m + 1)).length = m + 1 := by simp; omega
  have inv0 : HeadInv .any l.toArray n (Array.replicate l.toArray.size false) :=
    ⟨by simp, fun j oj _ hl => (by rw [getD_replicate_false] at hl; cases hl), fun t _ ht => getD_in (by simpa using ht) (getD_replicate_false _ _)⟩
  have H := headQ_lex_w (md := .any) (g := l.toArray.size - (n + (m + 1))) (m := m) hsel hs hc (by omega) (l.take n) 0 _ a (fun j hj => by
    have hj' : j < n := by rw [htl] at hj; exact hj
    simp [hj']) (by simpa using htl) inv0 (by rw [htl]; exact hlex) (h (fun a2 w2 => wpQuiet P l.toArray (fun w3 => ∃ x, w3 = ext w2 x) (fun a3 => ∀ w3, (∃ x, w3 = ext w2 x) → Q .normal a3 w3) (l.drop (n + (m + 1))) a2) (fun _ _ h => h))
  refine wp_region_any hm ?_
  have := any_of_headQ (Q := Q) (g := (m + 1) + (l.toArray.size - (n + (m + 1)))) (fun listed a' w' hw hL => by
    have h3 := wpAny_mid (md := .any) (Q := Q) (P := P) (ops := l.toArray) (g := l.toArray.size - (n + (m + 1))) (n := n + (m + 1)) (fun listed a2 w2 hB2 hT => by
      refine wpAny_of_quiet (C := fun w3 => ∃ x, w3 = ext w2 x) (Q := fun a3 => ∀ w3, (∃ x, w3 = ext w2 x) → Q .normal a3 w3) (fun _ w' hw' h => h w' hw') _ _ _ _ (ext_of (Below.refl _ _)) ?_
      have h4 := wpAnyQ_lex (md := .any) (C := fun w3 => ∃ x, w3 = ext w2 x) hsel (l.drop (n + (m + 1))) (n + (m + 1)) listed a2 (fun j => by simp [List.getElem?_drop]) (by rw [show (l.drop (n + (m + 1))).length = l.toArray.size - (n + (m + 1)) by simp]; exact hB2) hT
      rwa [show (l.drop (n + (m + 1))).length = l.toArray.size - (n + (m + 1)) by simp] at h4) ((l.drop n).take (m + 1)) n listed a' w' (fun j hj => by
        have hj' : j < m + 1 := by rw [htm] at hj; exact hj
        simp [hj']) (by rw [htm]) (by rw [htm]; exact hL.1) (hL.2 w' hw)
    rwa [htm] at h3) _ _ _ { w with drawn := w.drawn + 1 } (ext_of (Below.refl _ _).drew) H
  rw [htl, show n + ((m + 1) + (l.toArray.size - (n + (m + 1)))) = l.toArray.size by simp; omega] at this
  exact this

end
end Go.Proofs.YtmhhohancconaaaGreat

namespace Go.Proofs.YtmhhohancconaaaGreat
open Go Go.RowKit
set_option maxRecDepth 20000
section
variable {P : Program} {ops : Array Oper} {md : Region.Mode}

theorem count_set (l : List Bool) : ∀ i : Nat, l[i]? = some false → (l.set i true).count false + 1 = l.count false := by
  induction l with
  | nil => intro i h; simp at h
  | cons b l ih =>
    intro i h
    cases i with
    | zero =>
      simp only [List.getElem?_cons_zero, Option.some.injEq] at h
      subst h
      simp
    | succ i =>
      simp only [List.getElem?_cons_succ] at h
      have := ih i h
      simp only [List.set_cons_succ, List.count_cons]
      omega
/-- Each operation waits for earlier ones only. -/
def forwardB (md : Region.Mode) (ops : Array Oper) : Bool :=
  (List.range ops.size).all fun j => ((ops[j]?).map fun o => o.after.all fun e => !Region.binds md e || decide (e.on < j)).getD true
theorem forward_spec (h : forwardB md ops = true) {j : Nat} {o : Oper} (ho : ops[j]? = some o) : ∀ e ∈ o.after, Region.binds md e = true → e.on < j := by
  intro e he hb
  have hj : j < ops.size := (Array.getElem?_eq_some_iff.1 ho).1
  have h1 := List.all_eq_true.1 h j (List.mem_range.2 hj)
  rw [ho] at h1
  simp only [Option.map_some, Option.getD_some, Array.all_eq_true_iff_forall_mem, Bool.or_eq_true, Bool.not_eq_true', decide_eq_true_eq] at h1
  rcases h1 e he with h2 | h2
  · rw [hb] at h2; cases h2
  · exact h2
theorem ready_none (hf : forwardB md ops = true) {listed : Array Bool} (hs : listed.size = ops.size) (h : Region.ready md ops listed = []) : ∀ j, j < ops.size → listed.getD j true = true := by
  intro j
  induction j using Nat.strongRecOn with
  | _ j ih =>
    intro hj
    cases hl : listed.getD j true with
    | true => rfl
    | false =>
      have : j ∈ Region.ready md ops listed := mem_ready.2 ⟨hl, ops[j], Array.getElem?_eq_getElem hj, fun e he hb => by
        have h1 := forward_spec hf (Array.getElem?_eq_getElem hj) e he hb
        have h2 := ih e.on h1 (by omega)
        have h3 : e.on < listed.size := by omega
        simp only [Array.getD, h3, dite_true] at h2 ⊢
        exact h2⟩
      rw [h] at this
      cases this
theorem wpAny_inv {Q : Exit → Act → World → Prop} (I : Array Bool → Act → World → Prop) (hf : forwardB md ops = true)
    (hstep : ∀ listed a w i, I listed a w → i ∈ Region.ready md ops listed → wpOp P ops Q i (I (listed.setIfInBounds i true)) a w)
    (hend : ∀ listed a w, I listed a w → (∀ j, j < ops.size → listed.getD j true = true) → Q .normal a w) :
    ∀ (fuel : Nat) (listed : Array Bool) (a : Act) (w : World), listed.size = ops.size → listed.toList.count false = fuel → I listed a w → wpAny P md ops Q fuel listed a w := by
  intro fuel
  induction fuel with
  | zero =>
    intro listed a w hs hc hI
    have hno : false ∉ listed.toList := List.count_eq_zero.1 hc
    have hall : ∀ j, j < ops.size → listed.getD j true = true := fun j hj => by
      have hj' : j < listed.size := by omega
      rw [show listed.getD j true = listed[j] by simp [Array.getD, hj']]
      cases hb : listed[j] with
      | true => rfl
      | false => exact absurd (by rw [← hb]; simp) hno
    refine ⟨?_, hend listed a w hI hall⟩
    cases hr : Region.ready md ops listed with
    | nil => rfl
    | cons j js =>
      have hj : j ∈ Region.ready md ops listed := by rw [hr]; exact List.mem_cons_self
      obtain ⟨h1, o, ho, _⟩ := mem_ready.1 hj
      have := hall j (Array.getElem?_eq_some_iff.1 ho).1
      rw [h1] at this
      cases this
  | succ fuel ih =>
    intro listed a w hs hc hI
    refine ⟨fun hr => hend listed a w hI (ready_none hf hs hr), fun i hi => ?_⟩
    refine wpOp_mono (fun a' w' h' => ih _ a' w' (by simpa using hs) ?_ h') (hstep listed a w i hI hi)
    obtain ⟨h1, o, ho, _⟩ := mem_ready.1 hi
    have hj : i < listed.size := by rw [hs]; exact (Array.getElem?_eq_some_iff.1 ho).1
    simp only [Array.getD, hj, dite_true] at h1
    have h2 := count_set listed.toList i (by rw [Array.getElem?_toList, Array.getElem?_eq_getElem hj]; exact congrArg some h1)
    rw [Array.toList_setIfInBounds]
    omega
theorem wp_region_inv {id : Nat} {Q : Exit → Act → World → Prop} {a : Act} {w : World} {l : List Oper} (I : Array Bool → Act → World → Prop) (hm : P.follows .mixedOrders = true) (hf : forwardB .any l.toArray = true)
    (h0 : I (Array.replicate l.length false) a { w with drawn := w.drawn + 1 })
    (hstep : ∀ listed a w i, I listed a w → i ∈ Region.ready .any l.toArray listed → wpOp P l.toArray Q i (I (listed.setIfInBounds i true)) a w)
    (hend : ∀ listed a w, I listed a w → (∀ j, j < l.length → listed.getD j true = true) → Q .normal a w) : (Code.region id l.toArray true).wp P Q a w := by
  refine wp_region_any hm ?_
  refine wpAny_inv I hf hstep (fun listed a w h1 h2 => hend listed a w h1 (fun j hj => h2 j (by simpa using hj))) _ _ _ _ (by simp) ?_ ?_
  · simp
  · simpa using h0
theorem wpOp_of_list {Q : Exit → Act → World → Prop} {T : Act → World → Prop} {i : Nat} {o : Oper} {a : Act} {w : World} (h0 : ops[i]? = some o) (h : wpList P ops (thenQ T Q) [o] a w) : wpOp P ops Q i T a w := by
  unfold wpOp
  simp only [h0]
  unfold wpList at h
  split
  · rename_i hw
    rw [if_pos hw] at h
    rcases h with h | h
    · exact .inl (thenQ_wp h)
    · exact .inr ⟨h.1, h.2⟩
  · rename_i hw
    rw [if_neg hw] at h
    exact h
end
end Go.Proofs.YtmhhohancconaaaGreat

namespace Go.Proofs.YtmhhohancconaaaGreat
open Go.RowKit
set_option maxRecDepth 20000

end Go.Proofs.YtmhhohancconaaaGreat

