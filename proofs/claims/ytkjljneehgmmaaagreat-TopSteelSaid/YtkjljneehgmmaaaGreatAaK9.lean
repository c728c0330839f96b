/- RefLK4, RefLK3, RefMK in one text. -/
import Derived.Test.YtkjljneehgmmaaaGreatExtK
import Derived.Test.YtkjljneehgmmaaaGreatRefLK2
import Derived.Test.YtkjljneehgmmaaaGreatLaidK3
import Derived.Deep.DeepCutAuto
import Derived.Deep.CutBlock
import Derived.Test.YtkjljneehgmmaaaGreatAaK7
import Derived.Test.YtkjljneehgmmaaaGreatAaK1
namespace Go.Proofs.YtkjljneehgmmaaaGreat
open Go Go.RowKit
set_option maxRecDepth 20000
section
variable {P : Program} {ops : Array Oper} {md : Region.Mode} {C : World → Prop}

def chainW (md : Region.Mode) (ops : Array Oper) (n : Nat) : Bool :=
 (List.range ops.size).all fun t => decide (t ≤ n) || (List.range t).any fun j => decide (n ≤ j) && Region.waitsFor md ops t j

theorem tail_waits_w {n : Nat} {listed : Array Bool} (hs : Region.sinkB md ops n = true) (hc : chainW md ops n = true) (hn : n < ops.size) (inv : HeadInv md ops n listed) :
  ∀ (d i : Nat), n - i = d → i < n → listed.getD i true = false → ∀ t, n ≤ t → t ∉ Region.ready md ops listed := by
 intro d
 induction d using Nat.strongRecOn with
 | _ d ih =>
   intro i hd hi hun t ht hr
   obtain ⟨_, ot, hot, hall⟩ := mem_ready.1 hr
   have htlt : t < ops.size := (Array.getElem?_eq_some_iff.1 hot).1
   by_cases htn : t = n
   ·subst htn
    have h1 := List.all_eq_true.1 hs i (List.mem_range.2 hi)
    obtain ⟨j, hj, hj2⟩ := List.any_eq_true.1 h1
    simp only [Bool.and_eq_true, decide_eq_true_eq] at hj2
    obtain ⟨oj, hoj, e, he, hb, hon⟩ := Region.waitsFor_spec hj2.2
    have hjle : j ≤ t := by have := List.mem_range.1 hj; omega
    by_cases hjt : j = t
    ·subst hjt
     have : oj = ot := Option.some.inj (hoj.symm.trans hot)
     subst this
     have h2 := hall e he hb
     rw [hon, getD_both hun] at h2
     cases h2
    ·cases hl : listed.getD j false with
     | true =>
       have h2 := inv.closed j oj hoj hl e he hb
       rw [hon, getD_both hun] at h2
       cases h2
     | false =>
       have hjs : j < listed.size := by rw [inv.size]; omega
       exact ih (t - j) (by omega) j rfl (by omega) (getD_in hjs hl) t (Nat.le_refl _) hr
   ·have h1 := List.all_eq_true.1 hc t (List.mem_range.2 htlt)
    simp only [Bool.or_eq_true, decide_eq_true_eq] at h1
    rcases h1 with h1 | h1
    ·omega
    ·obtain ⟨j, hj, hj2⟩ := List.any_eq_true.1 h1
     simp only [Bool.and_eq_true, decide_eq_true_eq] at hj2
     obtain ⟨o', ho', e, he, hb, hon⟩ := Region.waitsFor_spec hj2.2
     have hjt : j < t := List.mem_range.1 hj
     have : o' = ot := Option.some.inj (ho'.symm.trans hot)
     subst this
     have h2 := hall e he hb
     rw [hon, getD_both (inv.tail j hj2.1 (by omega))] at h2
     cases h2

theorem ready_lt_w {n i j : Nat} {listed : Array Bool} (hs : Region.sinkB md ops n = true) (hc : chainW md ops n = true) (hn : n < ops.size) (inv : HeadInv md ops n listed)
  (hi : i ∈ Region.ready md ops listed) (hin : i < n) (hj : j ∈ Region.ready md ops listed) : j < n := by
 rcases Nat.lt_or_ge j n with h | h
 ·exact h
 ·exact absurd hj (tail_waits_w hs hc hn inv _ i rfl hin (mem_ready.1 hi).1 j h)

theorem headQ_take_w {n i : Nat} {oi : Oper} {v : Value} {G : Array Bool → Act → Prop} (hi : ops[i]? = some oi) (hsel : ∀ (j : Nat) (o : Oper) cs b, ops[j]? = some o → o.op ≠ .select cs b)
  (hs : Region.sinkB md ops n = true) (hc : chainW md ops n = true) (hn : n < ops.size) (hin : i < n) (hG : ∀ listed a, G listed a → ∀ j ∈ Region.ready md ops listed, n ≤ j) (f : Nat) :
  ∀ (listed : Array Bool) (a : Act), HeadInv md ops n listed →
   (∀ j oj, ops[j]? = some oj → j ≠ i → listed.getD j true = false → (∀ e ∈ oj.after, Region.binds md e = true → e.on ≠ i) → oi.apart ops oj = true) →
   i ∈ Region.ready md ops listed → YieldsIn P ops C oi v a →
   headQ P md ops C n G f (listed.setIfInBounds i true) (a.put oi.dst v) → headQ P md ops C n G (f + 1) listed a := by
 induction f with
 | zero =>
   intro listed a inv _ hr hy H
   refine ⟨fun h => (by rw [h] at hr; cases hr), fun j hj => ?_⟩
   have hjn := ready_lt_w hs hc hn inv hr hin hj
   by_cases hji : j = i
   ·subst hji; exact ⟨hjn, hy.qOp hi H⟩
   ·have := hG _ _ H j (ready_mono hj hji)
    omega
 | succ f ih =>
   intro listed a inv hfree hr hy H
   refine ⟨fun h => (by rw [h] at hr; cases hr), fun j hj => ?_⟩
   have hjn := ready_lt_w hs hc hn inv hr hin hj
   refine ⟨hjn, ?_⟩
   by_cases hji : j = i
   ·subst hji; exact hy.qOp hi H
   ·obtain ⟨hjun, oj, hoj, hall⟩ := mem_ready.1 hj
    have hun := (mem_ready.1 hr).1
    have hnot : ∀ e ∈ oj.after, Region.binds md e = true → e.on ≠ i := fun e he hb heq => by
     have h1 := hall e he hb
     rw [heq, getD_both hun] at h1
     cases h1
    have h2 := qOp_put hoj (hfree j oj hoj hji hjun hnot) (fun cs b => hsel i oi cs b hi) (fun cs b => hsel j oj cs b hoj) hy (H.2 j (ready_mono hj hji)).2
    refine qOp_mono (fun a' h3 => ih (listed.setIfInBounds j true) a' (inv.set hj hjn) (fun k ok hk hki hkun hno => ?_) (ready_mono hr (Ne.symm hji)) h3.1 ?_) h2
    ·refine hfree k ok hk hki ?_ hno
     by_cases hjk : j = k
     ·subst hjk; exact hjun
     ·rw [getD_set_ne true hjk] at hkun; exact hkun
    ·rw [Array.setIfInBounds_comm _ _ hji]
     exact h3.2

def midSeq (md : Region.Mode) (ops : Array Oper) (g : Nat) : Nat → Nat → Array Bool → Bool
 | 0, k, listed => Region.lexFrom md ops g k listed
 | f + 1, k, listed => decide (Region.ready md ops listed = [k]) && midSeq md ops g f (k + 1) (listed.setIfInBounds k true)

def midHead (md : Region.Mode) (ops : Array Oper) (g m : Nat) : Nat → Nat → Array Bool → Bool
 | 0, k, listed => midSeq md ops g m k listed
 | f + 1, k, listed => (Region.ready md ops listed).contains k && Region.free md ops listed k && midHead md ops g m f (k + 1) (listed.setIfInBounds k true)

theorem midSeq_ready {g m k : Nat} {listed : Array Bool} (h : midSeq md ops g (m + 1) k listed = true) : ∀ j ∈ Region.ready md ops listed, k ≤ j := by
 intro j hj
 simp only [midSeq, Bool.and_eq_true, decide_eq_true_eq] at h
 rw [h.1] at hj
 have : j = k := by simpa using hj
 omega

theorem headQ_lex_w {n g m : Nat} {G : Act → Prop} (hsel : Region.noSelect ops = true) (hs : Region.sinkB md ops n = true) (hc : chainW md ops n = true) (hn : n < ops.size) (l : List Oper) :
  ∀ (k : Nat) (listed : Array Bool) (a : Act), (∀ j, j < l.length → l[j]? = ops[k + j]?) → k + l.length = n → HeadInv md ops n listed →
  midHead md ops g (m + 1) l.length k listed = true → wpQuiet P ops C G l a →
  headQ P md ops C n (fun listed' a' => midSeq md ops g (m + 1) n listed' = true ∧ G a') l.length listed a := by
 induction l with
 | nil =>
   intro k listed a _ hk _ hB h
   have : k = n := by simpa using hk
   subst this
   exact ⟨by simpa [midHead] using hB, h⟩
 | cons o l ih =>
   intro k listed a hl hk inv hB h
   have h0 : ops[k]? = some o := by simpa using (hl 0 (by simp)).symm
   simp only [List.length_cons, midHead, Bool.and_eq_true] at hB
   obtain ⟨⟨hr, hf⟩, hB'⟩ := hB
   simp only [List.length_cons] at hk
   have hr' : k ∈ Region.ready md ops listed := by simpa using hr
   have hq : qOp P ops C k (wpQuiet P ops C G l) a := by unfold qOp; simp only [h0]; exact h
   obtain ⟨v, hy, hK⟩ := yieldsIn_of_qOp h0 hq
   exact headQ_take_w h0 (Region.noSelect_spec hsel) hs hc hn (by omega) (fun listed' a' hL => midSeq_ready hL.1) l.length listed a inv (Region.free_spec h0 hf) hr' hy
    (ih (k + 1) _ _ (fun j hj => by have := hl (j + 1) (by simp; omega); simpa [Nat.add_assoc, Nat.add_comm 1 j] using this) (by omega) (inv.set hr' (by omega)) hB' hK)

def thenQ (T : Act → World → Prop) (Q : Exit → Act → World → Prop) : Exit → Act → World → Prop
 | .normal, a, w => T a w
 | e, a, w => Q e a w

theorem thenQ_wp {T : Act → World → Prop} {Q : Exit → Act → World → Prop} {o : Oper} {a : Act} {w : World} {K : Act → World → Prop} (h : o.wp P a w K (thenQ T Q)) : o.wp P a w K Q := by
 unfold Oper.wp at h ⊢
 generalize (execOp a.eval o).run P w = r at h ⊢
 cases r with
 | ok n w' => cases n <;> first | exact h | (refine Calls.mono h ?_; intro e w2 he; cases e <;> exact he)
 | _ => exact h

theorem wpAny_mid {T : Act → World → Prop} {Q : Exit → Act → World → Prop} {g n : Nat} (hT : ∀ listed a w, Region.lexFrom md ops g n listed = true → T a w → wpAny P md ops Q g listed a w) :
  ∀ (l : List Oper) (k : Nat) (listed : Array Bool) (a : Act) (w : World), (∀ j, j < l.length → l[j]? = ops[k + j]?) → k + l.length = n →
  midSeq md ops g l.length k listed = true → wpList P ops (thenQ T Q) l a w → wpAny P md ops Q (l.length + g) listed a w
 | [], k, listed, a, w, _, hk, hB, h => by
   have : k = n := by simpa using hk
   subst this
   rw [show ([] : List Oper).length + g = g by simp]
   exact hT _ _ _ (by simpa [midSeq] using hB) h
 | o :: l, k, listed, a, w, hl, hk, hB, h => by
   have h0 : ops[k]? = some o := by simpa using (hl 0 (by simp)).symm
   simp only [List.length_cons, midSeq, Bool.and_eq_true, decide_eq_true_eq] at hB
   simp only [List.length_cons] at hk
   rw [show (o :: l).length + g = (l.length + g) + 1 by simp; omega]
   refine ⟨fun h1 => (by rw [hB.1] at h1; cases h1), fun i hi => ?_⟩
   rw [hB.1] at hi
   have hik : i = k := by simpa using hi
   subst hik
   have hw : wpOp P ops Q i (wpList P ops (thenQ T Q) l) a w := by
    unfold wpOp
    simp only [h0]
    unfold wpList at h
    split
    ·rename_i hw
     rw [if_pos hw] at h
     rcases h with h | h
     ·exact .inl (thenQ_wp h)
     ·exact .inr ⟨h.1, h.2⟩
    ·rename_i hw
     rw [if_neg hw] at h
     exact h
   exact wpOp_mono (fun a' w' h' => wpAny_mid hT l (i + 1) _ a' w' (fun j hj => by have := hl (j + 1) (by simp; omega); simpa [Nat.add_assoc, Nat.add_comm 1 j] using this) (by omega) hB.2 h') hw

def midB (md : Region.Mode) (ops : Array Oper) (n m : Nat) : Bool :=
 Region.noSelect ops && decide (n + m < ops.size) && Region.sinkB md ops n && chainW md ops n && midHead md ops (ops.size - (n + (m + 1))) (m + 1) n 0 (Array.replicate ops.size false)

theorem wp_region_mid {id : Nat} {Q : Exit → Act → World → Prop} {a : Act} {w : World} {l : List Oper} (n m : Nat) (hm : P.follows .mixedOrders = true) (hB : midB .any l.toArray n m = true)
  (h : ∀ T : Act → World → Prop, (∀ a2 w2, wpQuiet P l.toArray (fun w3 => ∃ x, w3 = ext w2 x) (fun a3 => ∀ w3, (∃ x, w3 = ext w2 x) → Q .normal a3 w3) (l.drop (n + (m + 1))) a2 → T a2 w2) →
    wpQuiet P l.toArray (fun w' => ∃ x, w' = ext w x) (fun a' => ∀ w', (∃ x, w' = ext w x) → wpList P l.toArray (thenQ T Q) ((l.drop n).take (m + 1)) a' w') (l.take n) a) :
  (Code.region id l.toArray true).wp P Q a w := by
 simp only [midB, Bool.and_eq_true, decide_eq_true_eq] at hB
 obtain ⟨⟨⟨⟨hsel, hn⟩, hs⟩, hc⟩, hlex⟩ := hB
 have hn' : n + m < l.length := by simpa using hn
 have htl : (l.take n).length = n := by simp; omega
 have htm : ((l.drop n).take (m + 1)).length = m + 1 := by simp; omega
 have inv0 : HeadInv .any l.toArray n (Array.replicate l.toArray.size false) :=
  ⟨by simp, fun j oj _ hl => (by rw [getD_replicate_false] at hl; cases hl), fun t _ ht => getD_in (by simpa using ht) (getD_replicate_false _ _)⟩
 have H := headQ_lex_w (md := .any) (g := l.toArray.size - (n + (m + 1))) (m := m) hsel hs hc (by omega) (l.take n) 0 _ a (fun j hj => by
  have hj' : j < n := by rw [htl] at hj; exact hj
  simp [hj']) (by simpa using htl) inv0 (by rw [htl]; exact hlex) (h (fun a2 w2 => wpQuiet P l.toArray (fun w3 => ∃ x, w3 = ext w2 x) (fun a3 => ∀ w3, (∃ x, w3 = ext w2 x) → Q .normal a3 w3) (l.drop (n + (m + 1))) a2) (fun _ _ h => h))
 refine wp_region_any hm ?_
 have := any_of_headQ (Q := Q) (g := (m + 1) + (l.toArray.size - (n + (m + 1)))) (fun listed a' w' hw hL => by
  have h3 := wpAny_mid (md := .any) (Q := Q) (P := P) (ops := l.toArray) (g := l.toArray.size - (n + (m + 1))) (n := n + (m + 1)) (fun listed a2 w2 hB2 hT => by
   refine wpAny_of_quiet (C := fun w3 => ∃ x, w3 = ext w2 x) (Q := fun a3 => ∀ w3, (∃ x, w3 = ext w2 x) → Q .normal a3 w3) (fun _ w' hw' h => h w' hw') _ _ _ _ (ext_of (Below.refl _ _)) ?_
   have h4 := wpAnyQ_lex (md := .any) (C := fun w3 => ∃ x, w3 = ext w2 x) hsel (l.drop (n + (m + 1))) (n + (m + 1)) listed a2 (fun j => by simp [List.getElem?_drop]) (by rw [show (l.drop (n + (m + 1))).length = l.toArray.size - (n + (m + 1)) by simp]; exact hB2) hT
   rwa [show (l.drop (n + (m + 1))).length = l.toArray.size - (n + (m + 1)) by simp] at h4) ((l.drop n).take (m + 1)) n listed a' w' (fun j hj => by
    have hj' : j < m + 1 := by rw [htm] at hj; exact hj
    simp [hj']) (by rw [htm]) (by rw [htm]; exact hL.1) (hL.2 w' hw)
  rwa [htm] at h3) _ _ _ { w with drawn := w.drawn + 1 } (ext_of (Below.refl _ _).drew) H
 rw [htl, show n + ((m + 1) + (l.toArray.size - (n + (m + 1)))) = l.toArray.size by simp; omega] at this
 exact this

end
end Go.Proofs.YtkjljneehgmmaaaGreat

namespace Go.Proofs.YtkjljneehgmmaaaGreat
open Go Go.RowKit
set_option maxRecDepth 20000
section
variable {P : Program} {ops : Array Oper} {md : Region.Mode}

theorem count_set (l : List Bool) : ∀ i : Nat, l[i]? = some false → (l.set i true).count false + 1 = l.count false := by
 induction l with
 | nil => intro i h; simp at h
 | cons b l ih =>
   intro i h
   cases i with
   | zero =>
     simp only [List.getElem?_cons_zero, Option.some.injEq] at h
     subst h
     simp
   | succ i =>
     simp only [List.getElem?_cons_succ] at h
     have := ih i h
     simp only [List.set_cons_succ, List.count_cons]
     omega
def forwardB (md : Region.Mode) (ops : Array Oper) : Bool :=
 (List.range ops.size).all fun j => ((ops[j]?).map fun o => o.after.all fun e => !Region.binds md e || decide (e.on < j)).getD true
theorem forward_spec (h : forwardB md ops = true) {j : Nat} {o : Oper} (ho : ops[j]? = some o) : ∀ e ∈ o.after, Region.binds md e = true → e.on < j := by
 intro e he hb
 have hj : j < ops.size := (Array.getElem?_eq_some_iff.1 ho).1
 have h1 := List.all_eq_true.1 h j (List.mem_range.2 hj)
 rw [ho] at h1
 simp only [Option.map_some, Option.getD_some, Array.all_eq_true_iff_forall_mem, Bool.or_eq_true, Bool.not_eq_true', decide_eq_true_eq] at h1
 rcases h1 e he with h2 | h2
 ·rw [hb] at h2; cases h2
 ·exact h2
theorem ready_none (hf : forwardB md ops = true) {listed : Array Bool} (hs : listed.size = ops.size) (h : Region.ready md ops listed = []) : ∀ j, j < ops.size → listed.getD j true = true := by
 intro j
 induction j using Nat.strongRecOn with
 | _ j ih =>
   intro hj
   cases hl : listed.getD j true with
   | true => rfl
   | false =>
     have : j ∈ Region.ready md ops listed := mem_ready.2 ⟨hl, ops[j], Array.getElem?_eq_getElem hj, fun e he hb => by
      have h1 := forward_spec hf (Array.getElem?_eq_getElem hj) e he hb
      have h2 := ih e.on h1 (by omega)
      have h3 : e.on < listed.size := by omega
      simp only [Array.getD, h3, dite_true] at h2 ⊢
      exact h2⟩
     rw [h] at this
     cases this
theorem wpAny_inv {Q : Exit → Act → World → Prop} (I : Array Bool → Act → World → Prop) (hf : forwardB md ops = true)
  (hstep : ∀ listed a w i, I listed a w → i ∈ Region.ready md ops listed → wpOp P ops Q i (I (listed.setIfInBounds i true)) a w)
  (hend : ∀ listed a w, I listed a w → (∀ j, j < ops.size → listed.getD j true = true) → Q .normal a w) :
  ∀ (fuel : Nat) (listed : Array Bool) (a : Act) (w : World), listed.size = ops.size → listed.toList.count false = fuel → I listed a w → wpAny P md ops Q fuel listed a w := by
 intro fuel
 induction fuel with
 | zero =>
   intro listed a w hs hc hI
   have hno : false ∉ listed.toList := List.count_eq_zero.1 hc
   have hall : ∀ j, j < ops.size → listed.getD j true = true := fun j hj => by
    have hj' : j < listed.size := by omega
    rw [show listed.getD j true = listed[j] by simp [Array.getD, hj']]
    cases hb : listed[j] with
    | true => rfl
    | false => exact absurd (by rw [← hb]; simp) hno
   refine ⟨?_, hend listed a w hI hall⟩
   cases hr : Region.ready md ops listed with
   | nil => rfl
   | cons j js =>
     have hj : j ∈ Region.ready md ops listed := by rw [hr]; exact List.mem_cons_self
     obtain ⟨h1, o, ho, _⟩ := mem_ready.1 hj
     have := hall j (Array.getElem?_eq_some_iff.1 ho).1
     rw [h1] at this
     cases this
 | succ fuel ih =>
   intro listed a w hs hc hI
   refine ⟨fun hr => hend listed a w hI (ready_none hf hs hr), fun i hi => ?_⟩
   refine wpOp_mono (fun a' w' h' => ih _ a' w' (by simpa using hs) ?_ h') (hstep listed a w i hI hi)
   obtain ⟨h1, o, ho, _⟩ := mem_ready.1 hi
   have hj : i < listed.size := by rw [hs]; exact (Array.getElem?_eq_some_iff.1 ho).1
   simp only [Array.getD, hj, dite_true] at h1
   have h2 := count_set listed.toList i (by rw [Array.getElem?_toList, Array.getElem?_eq_getElem hj]; exact congrArg some h1)
   rw [Array.toList_setIfInBounds]
   omega
theorem wp_region_inv {id : Nat} {Q : Exit → Act → World → Prop} {a : Act} {w : World} {l : List Oper} (I : Array Bool → Act → World → Prop) (hm : P.follows .mixedOrders = true) (hf : forwardB .any l.toArray = true)
  (h0 : I (Array.replicate l.length false) a { w with drawn := w.drawn + 1 })
  (hstep : ∀ listed a w i, I listed a w → i ∈ Region.ready .any l.toArray listed → wpOp P l.toArray Q i (I (listed.setIfInBounds i true)) a w)
  (hend : ∀ listed a w, I listed a w → (∀ j, j < l.length → listed.getD j true = true) → Q .normal a w) : (Code.region id l.toArray true).wp P Q a w := by
 refine wp_region_any hm ?_
 refine wpAny_inv I hf hstep (fun listed a w h1 h2 => hend listed a w h1 (fun j hj => h2 j (by simpa using hj))) _ _ _ _ (by simp) ?_ ?_
 ·simp
 ·simpa using h0
theorem wpOp_of_list {Q : Exit → Act → World → Prop} {T : Act → World → Prop} {i : Nat} {o : Oper} {a : Act} {w : World} (h0 : ops[i]? = some o) (h : wpList P ops (thenQ T Q) [o] a w) : wpOp P ops Q i T a w := by
 unfold wpOp
 simp only [h0]
 unfold wpList at h
 split
 ·rename_i hw
  rw [if_pos hw] at h
  rcases h with h | h
  ·exact .inl (thenQ_wp h)
  ·exact .inr ⟨h.1, h.2⟩
 ·rename_i hw
  rw [if_neg hw] at h
  exact h
end
end Go.Proofs.YtkjljneehgmmaaaGreat

namespace Go.Proofs.YtkjljneehgmmaaaGreat
open Go.RowKit
set_option maxRecDepth 20000

set_option maxRecDepth 100000 in
set_option maxHeartbeats 4000000 in
theorem refRun_v (l : List Br) (v : Value) (r : Rn) (q : Bool) (hq : runB l r = q) (hs : ∀ b ∈ l, shapeB b = true) (w : World) (hl : Bars w v l) :
  Calls Tryz.prog 95 #[v, (.agg #[.string r.mark, .int .i64 r.tx, .int .i64 r.ty, .int .i64 r.ax, .int .i64 r.ay, .int .i64 r.az, .int .i64 r.sx, .int .i64 r.sy, .int .i64 r.sz, .int .i64 r.count])] w (Ret w (.bool q)) := by
 have HF := hd0 (fun w hl => refFind_c l v r.mark w hl)
 have HT := hd0 (fun q h w => refTurn_v r.tx r.ty q h w)
 have HA := hd0 (fun q h w => refNear15_v ⟨r.ax, r.ay, r.az⟩ q h w)
 have HS := hd0 (fun q h w => refTwice_v ⟨r.sx, r.sy, r.sz⟩ q h w)
 have HL := hd0 hl
 rw [runB_eq] at hq
 have HQ := hd0 hq
 have HB := hd0 hs
 obtain ⟨ok, HK⟩ : ∃ q, Hid (right1 l r = q) := ⟨_, hd0 rfl⟩
 obtain ⟨K, HKK⟩ : ∃ K, Hid (findI l r.mark = K) := ⟨_, hd0 rfl⟩
 rw [HKK.out] at HF
 obtain ⟨ok2, HK2⟩ : ∃ q, Hid (right2 r = q) := ⟨_, hd0 rfl⟩
 clear hs hl hq
 go_enter Tryz.func95, Tryz.ntmps95
 go_wp2_with fail
 go_at_call 151; refine (HF.out _ (HL.out.below gro)).mono ?_; rintro e w' ⟨rfl, xf, rfl⟩
 go_upto_region 2 with fail
 refine world_mask (fun W => (∃ x, W = ext w x) ∧ Blk W w.heap.size (rnCells r) 118) _ ⟨ext_of gro, (Blk.new' rfl _ _).ext _⟩ ?_
 rintro W1 ⟨⟨x, rfl⟩, hR⟩
 have c0 : (ext w x).cell? ⟨w.heap.size, 0, none⟩ = some (.string r.mark) := hR.cell 0
 have c1 : (ext w x).cell? ⟨w.heap.size, 1, none⟩ = some (.int .i64 r.tx) := hR.cell 1
 have c2 : (ext w x).cell? ⟨w.heap.size, 2, none⟩ = some (.int .i64 r.ty) := hR.cell 2
 have c3 : (ext w x).cell? ⟨w.heap.size, 3, none⟩ = some (.int .i64 r.ax) := hR.cell 3
 have c4 : (ext w x).cell? ⟨w.heap.size, 4, none⟩ = some (.int .i64 r.ay) := hR.cell 4
 have c5 : (ext w x).cell? ⟨w.heap.size, 5, none⟩ = some (.int .i64 r.az) := hR.cell 5
 have c6 : (ext w x).cell? ⟨w.heap.size, 6, none⟩ = some (.int .i64 r.sx) := hR.cell 6
 have c7 : (ext w x).cell? ⟨w.heap.size, 7, none⟩ = some (.int .i64 r.sy) := hR.cell 7
 have c8 : (ext w x).cell? ⟨w.heap.size, 8, none⟩ = some (.int .i64 r.sz) := hR.cell 8
 have c9 : (ext w x).cell? ⟨w.heap.size, 9, none⟩ = some (.int .i64 r.count) := hR.cell 9
 have HRB := hd0 hR
 clear hR
 obtain ⟨W1, hW1⟩ : ∃ W, W = ext w x := ⟨_, rfl⟩
 have HW1 := hd0 hW1
 rw [← hW1] at c0 c1 c2 c3 c4 c5 c6 c7 c8 c9 HRB ⊢
 clear hW1
 have HL1 := hd0 (show Bars W1 v l by rw [HW1.out]; exact HL.out.ext _)
 obtain ⟨mark, tx, ty, ax, ay, az, sx, sy, sz, count⟩ := r
 simp only at *
 go_cut [33] (fun s wx => s = .bool (!ok) ∧ ∃ x, wx = ext W1 x)
 case first =>
  have hok := HK.out
  unfold right1 at hok
  simp only [HKK.out] at hok
  by_cases h1 : 0 ≤ K
  ·rw [decide_eq_true h1, Bool.true_and] at hok
   cases h2 : turnB tx ty
   ·obtain rfl : false = ok := by rw [← hok, h2]; rfl
    have H2 := hd0 h2
    clear h2 hok
    go_wp2_with fail
    go_at_call 152; refine (HT.out _ H2.out _).mono ?_; rintro e w' ⟨rfl, y2, rfl⟩
    go_wp2
    go_meet
    exact ⟨rfl, ext_of gro⟩
   ·rw [h2, Bool.true_and] at hok
    have H2 := hd0 h2
    clear h2
    by_cases h3 : 1 ≤ count
    ·rw [decide_eq_true h3, Bool.true_and] at hok
     by_cases h4 : count ≤ 1000
     ·rw [decide_eq_true h4, Bool.true_and] at hok
      have H5 := hd0 hok
      clear hok
      go_wp2_with fail
      go_at_call 152; refine (HT.out _ H2.out _).mono ?_; rintro e w' ⟨rfl, y2, rfl⟩
      go_wp2_with fail
      go_at_call 153; refine (HA.out _ H5.out _).mono ?_; rintro e w' ⟨rfl, y3, rfl⟩
      go_wp2
      go_meet
      exact ⟨by rw [decide_eq_false (by omega : ¬ K < 0), decide_eq_false (by omega : ¬ count < 1), decide_eq_false (by omega : ¬ 1000 < count)]; rfl, ext_of gro⟩
     ·obtain rfl : false = ok := by rw [← hok, decide_eq_false h4]; rfl
      clear hok
      go_wp2_with fail
      go_at_call 152; refine (HT.out _ H2.out _).mono ?_; rintro e w' ⟨rfl, y2, rfl⟩
      go_wp2
      go_meet
      exact ⟨rfl, ext_of gro⟩
    ·obtain rfl : false = ok := by rw [← hok, decide_eq_false h3]; rfl
     clear hok
     go_wp2_with fail
     go_at_call 152; refine (HT.out _ H2.out _).mono ?_; rintro e w' ⟨rfl, y2, rfl⟩
     go_wp2
     go_meet
     exact ⟨rfl, ext_of gro⟩
  ·obtain rfl : false = ok := by rw [← hok, decide_eq_false h1]; rfl
   clear hok
   go_wp2
   go_meet
   exact ⟨rfl, ext_of gro⟩
 case rest =>
  obtain ⟨rfl, y, rfl⟩ := hcut
  have hq := HQ.out
  rw [HK.out] at hq
  cases ok
  ·obtain rfl : false = q := by rw [← hq]; rfl
   clear hq
   go_wp2
   go_ret
   exact Ret.of (by rw [HW1.out]; (repeat (first | exact grow_refl _ | refine grow_ext _ ?_ | refine grow_alloc _ ?_ | refine grow_drew ?_)))
  rw [Bool.true_and] at hq
  have HQ2 := hd0 hq
  clear hq HQ
  have hr := HK.out
  unfold right1 at hr
  simp only [Bool.and_eq_true, decide_eq_true_iff] at hr
  obtain ⟨k1, k2, k3, k4, k5⟩ := hr
  rw [HKK.out] at k1
  have HT2 := hd0 k2
  have HA5 := hd0 (near_iff.1 k5)
  clear k2 k5 HA HT HF
  go_upto_region 4 with fail
  go_cut [48] (fun s wx => s = .bool (!ok2) ∧ ∃ x, wx = ext W1 x)
  case first =>
   have hok := HK2.out
   unfold right2 at hok
   simp only at hok
   by_cases h1 : 1 < count
   ·rw [decide_eq_false (by omega), Bool.false_or] at hok
    cases h3 : nearB ⟨sx, sy, sz⟩ 2097152
    all_goals
     rw [h3] at hok
     have H3 := hd0 h3
     clear h3
     by_cases a1 : sx = 0
     ·by_cases a2 : sy = 0
      ·by_cases a3 : sz = 0
       ·obtain rfl : false = ok2 := by rw [← hok, a1, a2, a3]; rfl
        subst a1 a2 a3
        clear hok HS H3
        go_wp2
        go_meet
        exact ⟨rfl, ext_of gro⟩
       ·have e3 : (sz == 0) = false := by simpa using a3
        simp [a3] at hok
        subst hok a1 a2
        go_wp2_with fail
        go_at_call 154; refine (HS.out _ H3.out _).mono ?_; rintro e w' ⟨rfl, y5, rfl⟩
        go_wp2
        go_meet
        exact ⟨rfl, ext_of gro⟩
      ·have e3 : (sy == 0) = false := by simpa using a2
       simp [a2] at hok
       subst hok a1
       go_wp2_with fail
       go_at_call 154; refine (HS.out _ H3.out _).mono ?_; rintro e w' ⟨rfl, y5, rfl⟩
       go_wp2
       go_meet
       exact ⟨rfl, ext_of gro⟩
     ·have e3 : (sx == 0) = false := by simpa using a1
      simp [a1] at hok
      subst hok
      go_wp2_with fail
      go_at_call 154; refine (HS.out _ H3.out _).mono ?_; rintro e w' ⟨rfl, y5, rfl⟩
      go_wp2
      go_meet
      exact ⟨rfl, ext_of gro⟩
   ·rw [decide_eq_true (by omega), Bool.true_or] at hok
    subst hok
    go_wp2
    go_meet
    exact ⟨rfl, ext_of gro⟩
  case rest =>
   obtain ⟨rfl, y2, rfl⟩ := hcut
   have hq := HQ2.out
   rw [HK2.out] at hq
   cases ok2
   ·obtain rfl : false = q := by rw [← hq]; rfl
    clear hq
    go_wp2
    go_ret
    exact Ret.of (by rw [HW1.out]; (repeat (first | exact grow_refl _ | refine grow_ext _ ?_ | refine grow_alloc _ ?_ | refine grow_drew ?_)))
   rw [Bool.true_and] at hq
   have hsm := HK2.out
   unfold right2 at hsm
   simp only [Bool.or_eq_true, Bool.and_eq_true, decide_eq_true_iff] at hsm
   have HSM := hd0 (show 1 < count → NearP ⟨sx, sy, sz⟩ 2097152 from fun h => by
    rcases hsm with h' | h'
    ·omega
    ·exact near_iff.1 h'.2)
   clear hsm HS HQ2
   have hsm := HK2.out
   unfold right2 at hsm
   simp only [Bool.or_eq_true, Bool.and_eq_true, decide_eq_true_iff] at hsm
   have hstep : 1 < count → NearP ⟨sx, sy, sz⟩ 2097152 := fun h => by
    rcases hsm with h' | h'
    ·omega
    ·exact near_iff.1 h'.2
   clear hsm
   rcases findI_cases l mark with ⟨e, -⟩ | ⟨k, hkl, e, -, -⟩
   ·rw [HKK.out] at e; omega
   obtain rfl : K = (k : Int) := by rw [← HKK.out, e]
   have hbm : barOf l mark = l[k] := by unfold barOf; rw [e]; simp [hkl]
   have hbs := HB.out _ (List.getElem_mem hkl)
   obtain ⟨va, vc, rfl, v2, v3, v4⟩ := HL1.out.shape
   obtain ⟨hok, b0, off, ea, hbr⟩ := v4 k hkl
   subst ea
   rw [hbm] at hq
   obtain ⟨b, hb⟩ : ∃ b, l[k] = b := ⟨_, rfl⟩
   rw [hb] at hq hbs hok hbr
   have hbr := hbr.ext y2
   obtain ⟨b1, b2, b3, b4, b5⟩ := hbr
   have c0 := cell_ext_some c0 y2
   have c1 := cell_ext_some c1 y2
   have c2 := cell_ext_some c2 y2
   have c3 := cell_ext_some c3 y2
   have c4 := cell_ext_some c4 y2
   have c5 := cell_ext_some c5 y2
   have c6 := cell_ext_some c6 y2
   have c7 := cell_ext_some c7 y2
   have c8 := cell_ext_some c8 y2
   have c9 := cell_ext_some c9 y2
   have HOK := hd0 hok
   have PT0 := hd0 (fun w hb => refPoints_c b ⟨mark, tx, ty, ax, ay, az, sx, sy, sz, count⟩ 0 hbs HT2.out HA5.out (by omega) (fun h => absurd h (by omega)) w hb)
   have PT1 := hd0 (fun w hb => refPoints_c b ⟨mark, tx, ty, ax, ay, az, sx, sy, sz, count⟩ (count - 1) hbs HT2.out HA5.out (by omega) (fun h => hstep (by omega)) w hb)
   generalize laidL b ⟨mark, tx, ty, ax, ay, az, sx, sy, sz, count⟩ 0 = L0 at *
   generalize laidL b ⟨mark, tx, ty, ax, ay, az, sx, sy, sz, count⟩ (count - 1) = L1 at *
   simp only at PT0 PT1
   have q1 : (0 : Int) ≤ (k : Int) := by omega
   have q2 : (k : Int) < (l.length : Int) := by omega
   have u1 : IntKind.i64.wrap (count - 1) = count - 1 := IntWalk.i64_in _ (by omega)
   have NR1 := hd0 (fun r h v w hl => refNear16_v L1 v r h w hl)
   clear hstep hbm hb hbs hok v4 hkl e k1
   cases hn : L0.all fun p => nearB p 1048576
   ·obtain rfl : false = q := by rw [← hq, hn]; rfl
    have NR0 := hd0 (fun v w hl => refNear16_v L0 v false hn w hl)
    clear hq hn NR1 PT1
    go_wp2_with fail
    refine wp_region_mid 5 2 (by kernel_rfl) (by kernel_rfl) ?_; intro T hT; have HT9 := hd0 hT; clear hT; simp only [List.take_succ_cons, List.take_zero, List.drop_succ_cons, List.drop_zero]
    repeat (go_big_quiet_step (fail))
    refine wpQuiet_nil ?_; rintro _ ⟨xq, rfl⟩
    go_wp2_with fail
    have hq0 := PT0.out _ (HOK.out.below (w' := ext (ext W1 y2) xq) gro)
    refine Calls.mono hq0 ?_
    rintro e w' ⟨v54, rfl, hown, x54, rfl⟩; have H54 := hd0 (Pts.of_own hown); clear hown hq0
    go_wp2_with (go_at_call 155; refine Calls.mono (NR0.out _ _ H54.out) ?_; rintro e w' ⟨rfl, x55, rfl⟩; clear H54)
    refine HT9.out _ _ ?_
    simp only [List.drop_succ_cons, List.drop_zero]
    repeat (go_big_quiet_step (fail))
    refine wpQuiet_nil ?_; rintro _ ⟨xq, rfl⟩
    go_wp2
    go_ret
    exact Ret.of (by rw [HW1.out]; (repeat (first | exact grow_refl _ | refine grow_ext _ ?_ | refine grow_alloc _ ?_ | refine grow_drew ?_)))
   ·rw [hn, Bool.true_and] at hq
    have NR0 := hd0 (fun v w hl => refNear16_v L0 v true hn w hl)
    have NR1 := hd0 (fun v w hl => NR1.out q hq v w hl)
    clear hq hn
    go_wp2_with fail
    go_region_held3 (fun w' => w'.cell? ⟨w.heap.size, 0, none⟩ = some (.string mark) ∧ w'.cell? ⟨w.heap.size, 1, none⟩ = some (.int .i64 tx) ∧ w'.cell? ⟨w.heap.size, 2, none⟩ = some (.int .i64 ty) ∧ w'.cell? ⟨w.heap.size, 3, none⟩ = some (.int .i64 ax) ∧ w'.cell? ⟨w.heap.size, 4, none⟩ = some (.int .i64 ay) ∧ w'.cell? ⟨w.heap.size, 5, none⟩ = some (.int .i64 az) ∧ w'.cell? ⟨w.heap.size, 6, none⟩ = some (.int .i64 sx) ∧ w'.cell? ⟨w.heap.size, 7, none⟩ = some (.int .i64 sy) ∧ w'.cell? ⟨w.heap.size, 8, none⟩ = some (.int .i64 sz) ∧ w'.cell? ⟨w.heap.size, 9, none⟩ = some (.int .i64 count) ∧
      w'.cell? ⟨b0, off + k * 5, none⟩ = some (.string b.mark) ∧ w'.cell? ⟨b0, off + k * 5 + 1, none⟩ = some (.int .i64 b.size) ∧ w'.cell? ⟨b0, off + k * 5 + 2, none⟩ = some (.int .i64 b.count) ∧ w'.cell? ⟨b0, off + k * 5 + 3, none⟩ = some (.int .i64 b.code) ∧ w'.cell? ⟨b0, off + k * 5 + 4, none⟩ = some b.dv) (simp [go_sem, *])
     (first
       | (go_at_call_of 156 (Value.int IntKind.i64 0); refine Calls.mono (PT0.out _ (HOK.out.below gro)) ?_; rintro e w' ⟨v54, rfl, hown, x54, rfl⟩; try (rw [ext_drew] at hown); have H54 := hd0 (Pts.of_own hown); clear hown)
       | (go_at_call 156; refine Calls.mono (PT1.out _ (HOK.out.below gro)) ?_; rintro e w' ⟨v65, rfl, hown, x65, rfl⟩)
       | (go_at_call_of 155 v54; refine Calls.mono (NR0.out _ _ H54.out) ?_; rintro e w' ⟨rfl, x55, rfl⟩; clear H54)
       | (go_at_call 155; refine Calls.mono (NR1.out _ _ (Pts.of_own hown)) ?_; rintro e w' ⟨rfl, x66, rfl⟩; clear hown))
    all_goals
     go_wp2
     go_ret
     exact Ret.of (by rw [HW1.out]; (repeat (first | exact grow_refl _ | refine grow_ext _ ?_ | refine grow_alloc _ ?_ | refine grow_drew ?_)))

set_option maxHeartbeats 2000000
set_option maxRecDepth 100000

theorem countS_small {l : List Br} {rs : List Rn} (h : ∀ r ∈ rs, runB l r = true) : 0 ≤ countS rs ∧ countS rs ≤ 1000 * (rs.length : Int) := by
 induction rs with
 | nil => simp [countS]
 | cons r rs ih =>
   have h1 := runB_count (h r List.mem_cons_self)
   have h2 := ih fun x hx => h x (List.mem_cons_of_mem _ hx)
   simp only [countS, List.length_cons]; omega

theorem refCount16_c (rs : List Rn) (u : Value) (h60 : rs.length ≤ 60) (hb : ∀ r ∈ rs, 1 ≤ r.count ∧ r.count ≤ 1000) (w : World) (hr : Runs w u rs) : Calls Tryz.prog 96 #[u] w (Ret w (.int .i64 (countS rs))) := by
 have HB := hd0 hb
 obtain ⟨a, cap, rfl, h2, h3, h4⟩ := hr.shape
 have H4 := hd0 h4
 clear hr h4 hb
 go_enter Tryz.func96, Tryz.ntmps96
 go_wp2_with fail
 go_loopw [3, 4] (fun m i wr => ∃ (k : Nat) (R : Int), k ≤ rs.length ∧ i = .int .i64 k ∧ m = .int .i64 R ∧ (0 ≤ R ∧ R ≤ 1000 * (k : Int)) ∧ R = countS (rs.take k) ∧ (∃ x, wr = ext w x)) (fun _ i _ => rs.length - (intOf i).toNat)
 case atStart => exact ⟨0, 0, by omega, rfl, rfl, by omega, by simp [countS], ext_of gro⟩
 case round =>
  obtain ⟨k, R, hk, rfl, rfl, hR, hc, ⟨x, rfl⟩⟩ := hrel
  have HC := hd0 hc
  obtain ⟨R0, R1⟩ := hR
  clear hc
  by_cases hlt : k < rs.length
  ·obtain ⟨_, b0, off, rfl, hbr⟩ := H4.out k hlt
   have q1 : (0 : Int) ≤ (k : Int) := by omega
   have q2 : (k : Int) < (rs.length : Int) := by omega
   have hct := count_take hlt
   have hcb := HB.out _ (List.getElem_mem hlt)
   obtain ⟨r, hr⟩ : ∃ r, rs[k] = r := ⟨_, rfl⟩
   rw [hr] at hct hbr hcb
   obtain ⟨c0, c1, c2, c3, c4, c5, c6, c7, c8, c9⟩ := hbr.ext x
   have hsum : 0 ≤ R + r.count ∧ R + r.count ≤ 1000 * ((k + 1 : Nat) : Int) := by omega
   have HCT := hd0 (show R + r.count = countS (rs.take (k + 1)) by rw [hct, HC.out])
   clear hr hbr hct
   go_wp2
   go_roundw
   case rel => exact ⟨k + 1, R + r.count, by omega, by go_num, rfl, hsum, HCT.out, ext_of gro⟩
   case measure => simp [intOf]; omega
  ·obtain rfl : k = rs.length := by omega
   obtain rfl : R = countS rs := by rw [HC.out, List.take_length]
   go_wp2
   go_ret
   exact Ret.of gro

theorem refLaid_v (l : List Br) (rs : List Rn) (v u : Value) (q : Bool) (hq : laidB l rs = q) (w : World) (hl : Bars w v l) (hr : Runs w u rs) : Calls Tryz.prog 51 #[v, u] w (Ret w (.bool q)) := by
 have HL := hd0 hl
 have HR := hd0 hr
 have HQ := hd0 hq
 obtain ⟨a, cap, rfl, h2, h3, h4⟩ := hr.shape
 have H4 := hd0 h4
 clear hl hr hq h4
 cases hs : schedB l
 ·obtain rfl : false = q := by rw [← HQ.out]; unfold laidB; rw [hs]; rfl
  have HS := hd0 hs
  clear hs
  go_enter Tryz.func51, Tryz.ntmps51
  go_wp2_with fail
  go_at_call 94; refine (ref14Valid_v l v _ HS.out _ (HL.out.below gro)).mono ?_; rintro e w' ⟨rfl, x1, rfl⟩
  go_wp2
  go_ret
  exact Ret.of gro
 ·have HB := hd0 (schedB_shape hs)
  have HS := hd0 hs
  clear hs
  by_cases h60 : rs.length ≤ 60
  ·have d1 : decide ((60 : Int) < (rs.length : Int)) = false := by simp; omega
   go_enter Tryz.func51, Tryz.ntmps51
   go_wp2_with fail
   go_at_call 94; refine (ref14Valid_v l v _ HS.out _ (HL.out.below gro)).mono ?_; rintro e w' ⟨rfl, x1, rfl⟩
   go_wp2_with fail
   go_loopw [5] (fun i wr => ∃ (k : Nat), k ≤ rs.length ∧ i = .int .i64 k ∧ (∃ x, wr = ext w x) ∧ ∀ r ∈ rs.take k, runB l r = true) (fun i _ => rs.length - (intOf i).toNat)
   case atStart => exact ⟨0, by omega, rfl, ext_of gro, fun r h => by cases h⟩
   case round =>
    obtain ⟨k, hk, rfl, ⟨x, rfl⟩, hno⟩ := hrel
    have HNO := hd0 hno
    clear hno
    by_cases hlt : k < rs.length
    ·obtain ⟨_, b0, off, rfl, hbr⟩ := H4.out k hlt
     have q1 : (0 : Int) ≤ (k : Int) := by omega
     have q2 : (k : Int) < (rs.length : Int) := by omega
     have htk : rs.take (k + 1) = rs.take k ++ [rs[k]] := List.take_succ_eq_append_getElem hlt
     have hrf : runB l rs[k] = false → laidB l rs = false := laidB_run_false hlt
     obtain ⟨r, hr⟩ : ∃ r, rs[k] = r := ⟨_, rfl⟩
     rw [hr] at htk hbr hrf
     obtain ⟨c0, c1, c2, c3, c4, c5, c6, c7, c8, c9⟩ := hbr.ext x
     have HTK := hd0 htk
     have HRF := hd0 hrf
     clear hr hbr htk hrf
     cases hs : runB l r
     ·obtain rfl : false = q := by rw [← HQ.out]; exact (HRF.out hs).symm
      have HRU := hd0 hs
      clear hs
      go_wp2_with fail
      go_at_call 95; refine (refRun_v l v r _ HRU.out HB.out _ (HL.out.below gro)).mono ?_; rintro e w' ⟨rfl, y1, rfl⟩
      go_wp2
      go_ret
      exact Ret.of gro
     ·have HRU := hd0 hs
      clear hs
      go_wp2_with fail
      go_at_call 95; refine (refRun_v l v r _ HRU.out HB.out _ (HL.out.below gro)).mono ?_; rintro e w' ⟨rfl, y1, rfl⟩
      go_wp2
      go_roundw
      case rel => exact ⟨k + 1, by omega, by go_num, ext_of gro, fun z hz => by
       rw [HTK.out] at hz
       rcases List.mem_append.1 hz with h | h
       ·exact HNO.out z h
       ·obtain rfl : z = r := by simpa using h
        exact HRU.out⟩
      case measure => simp [intOf]; omega
    ·obtain rfl : k = rs.length := by omega
     have h2' := HNO.out
     rw [List.take_length] at h2'
     have hct := countS_small h2'
     have hd : decide (countS rs ≤ 2000) = q := by
      rw [← HQ.out]; unfold laidB
      rw [HS.out, decide_eq_true h60, List.all_eq_true.2 h2']; rfl
     have HA := hd0 h2'
     clear h2'
     go_wp2_with fail
     go_at_call 96; refine (refCount16_c rs _ h60 (fun r h => runB_count (HA.out r h)) _ (HR.out.below gro)).mono ?_; rintro e w' ⟨rfl, y2, rfl⟩
     go_wp2
     go_ret
     exact Ret.of gro
  ·have d1 : decide ((60 : Int) < (rs.length : Int)) = true := by simp; omega
   obtain rfl : false = q := by rw [← HQ.out]; unfold laidB; rw [decide_eq_false h60, Bool.false_and, Bool.and_false]
   go_enter Tryz.func51, Tryz.ntmps51
   go_wp2_with fail
   go_at_call 94; refine (ref14Valid_v l v _ HS.out _ (HL.out.below gro)).mono ?_; rintro e w' ⟨rfl, x1, rfl⟩
   go_wp2
   go_ret
   exact Ret.of gro

set_option maxHeartbeats 8000000

def shortB (b : Br) : Bool := decide (b.dims.length ≤ 8) && decide (b.mark.size ≤ 60)

theorem refShort_v (b : Br) (r : Bool) (h : shortB b = r) (w : World) (hb : BrOk w b) : Calls Tryz.prog 91 #[(.agg #[.string b.mark, .int .i64 b.size, .int .i64 b.count, .int .i64 b.code, b.dv])] w (Ret w (.bool r)) := by
 obtain ⟨a, cap, ev, _, _, _⟩ := hb.dims
 have hm := hb.mark
 unfold shortB at h
 clear hb
 obtain ⟨mark, size, count, code, dims, dv⟩ := b
 simp only at *
 subst ev
 by_cases h1 : dims.length ≤ 8
 ·have d1 : decide ((dims.length : Int) ≤ 8) = true := by simp; omega
  rw [decide_eq_true h1, Bool.true_and] at h
  have d2 : decide ((mark.size : Int) ≤ 60) = r := by rw [← h]; apply decide_eq_decide.2; omega
  clear h
  go_enter Tryz.func91, Tryz.ntmps91
  go_wp2
  go_ret
  exact Ret.of gro
 ·have d1 : decide ((dims.length : Int) ≤ 8) = false := by simp; omega
  rw [decide_eq_false h1, Bool.false_and] at h
  subst h
  go_enter Tryz.func91, Tryz.ntmps91
  go_wp2
  go_ret
  exact Ret.of gro

def RetSm (w : World) (rs : List Rn) (m : Int) : Ending → World → Prop := fun e W => ∃ q, e = .returned (.bool q) ∧ (q = true → (∀ r ∈ rs, 1 ≤ r.count ∧ r.count ≤ 1000) → rs.length ≤ 60 → countS rs ≤ m) ∧ ∃ x, W = ext w x

set_option maxRecDepth 100000 in
theorem refSmall16s_c (l : List Br) (rs : List Rn) (v u : Value) (n m : Int) (_ : 0 ≤ n ∧ n ≤ 100) (hm : 0 ≤ m ∧ m ≤ 100) (w : World) (hl : Bars w v l) (hr : Runs w u rs) :
  Calls Tryz.prog 48 #[v, u, .int .i64 n, .int .i64 m] w (RetSm w rs m) := by
 obtain ⟨b, bcap, rfl, g2, g3, g4⟩ := hl.shape
 have G4 := hd0 g4
 obtain ⟨a, cap, rfl, h2, h3, h4⟩ := hr.shape
 have H4 := hd0 h4
 clear hr h4 hl g4
 go_enter Tryz.func48, Tryz.ntmps48
 go_upto_region 1 with fail
 go_cut [41] (fun s wx => ∃ q0, s = .bool q0 ∧ (q0 = false → l.length ≤ 63 ∧ rs.length ≤ 63 ∧ ((rs.length : Int) ≤ n ∨ 60 < rs.length)) ∧ ∃ x, wx = ext w x)
 case first =>
  cases e1 : decide (n < (l.length : Int))
  ·skip
   cases e3 : decide (63 < (l.length : Int))
   ·skip
    cases e4 : decide (n < (rs.length : Int))
    ·skip
     cases e6 : decide (63 < (rs.length : Int))
     ·skip
      go_wp2
      go_meet
      exact ⟨_, rfl, fun h => by first | (cases h; done) | (simp at *; omega), ext_of gro⟩
     ·skip
      go_wp2
      go_meet
      exact ⟨_, rfl, fun h => by first | (cases h; done) | (simp at *; omega), ext_of gro⟩
    ·skip
     cases e5 : decide ((rs.length : Int) ≤ 60)
     ·skip
      cases e6 : decide (63 < (rs.length : Int))
      ·skip
       go_wp2
       go_meet
       exact ⟨_, rfl, fun h => by first | (cases h; done) | (simp at *; omega), ext_of gro⟩
      ·skip
       go_wp2
       go_meet
       exact ⟨_, rfl, fun h => by first | (cases h; done) | (simp at *; omega), ext_of gro⟩
     ·skip
      go_wp2
      go_meet
      exact ⟨_, rfl, fun h => by first | (cases h; done) | (simp at *; omega), ext_of gro⟩
   ·skip
    go_wp2
    go_meet
    exact ⟨_, rfl, fun h => by first | (cases h; done) | (simp at *; omega), ext_of gro⟩
  ·skip
   cases e2 : decide ((l.length : Int) ≤ 60)
   ·skip
    cases e3 : decide (63 < (l.length : Int))
    ·skip
     cases e4 : decide (n < (rs.length : Int))
     ·skip
      cases e6 : decide (63 < (rs.length : Int))
      ·skip
       go_wp2
       go_meet
       exact ⟨_, rfl, fun h => by first | (cases h; done) | (simp at *; omega), ext_of gro⟩
      ·skip
       go_wp2
       go_meet
       exact ⟨_, rfl, fun h => by first | (cases h; done) | (simp at *; omega), ext_of gro⟩
     ·skip
      cases e5 : decide ((rs.length : Int) ≤ 60)
      ·skip
       cases e6 : decide (63 < (rs.length : Int))
       ·skip
        go_wp2
        go_meet
        exact ⟨_, rfl, fun h => by first | (cases h; done) | (simp at *; omega), ext_of gro⟩
       ·skip
        go_wp2
        go_meet
        exact ⟨_, rfl, fun h => by first | (cases h; done) | (simp at *; omega), ext_of gro⟩
      ·skip
       go_wp2
       go_meet
       exact ⟨_, rfl, fun h => by first | (cases h; done) | (simp at *; omega), ext_of gro⟩
    ·skip
     go_wp2
     go_meet
     exact ⟨_, rfl, fun h => by first | (cases h; done) | (simp at *; omega), ext_of gro⟩
   ·skip
    go_wp2
    go_meet
    exact ⟨_, rfl, fun h => by first | (cases h; done) | (simp at *; omega), ext_of gro⟩
 case rest =>
  obtain ⟨q0, rfl, hq0, x0, rfl⟩ := hcut
  cases q0
  ·obtain ⟨l63, r63, hn60⟩ := hq0 rfl
   have HN6 := hd0 hn60
   clear hq0 hn60
   go_wp2_with fail
   go_loopw [9] (fun i wr => ∃ (k : Nat), k ≤ l.length ∧ i = .int .i64 k ∧ (∃ x, wr = ext w x)) (fun i _ => l.length - (intOf i).toNat)
   case atStart => exact ⟨0, by omega, rfl, ext_of gro⟩
   case round =>
    obtain ⟨k, hk, rfl, ⟨x, rfl⟩⟩ := hrel
    by_cases hlt : k < l.length
    ·obtain ⟨hok, b0, off, rfl, hbr⟩ := G4.out k hlt
     have q1 : (0 : Int) ≤ (k : Int) := by omega
     have q2 : (k : Int) < (l.length : Int) := by omega
     obtain ⟨c, hc⟩ : ∃ c, l[k] = c := ⟨_, rfl⟩
     rw [hc] at hbr hok
     obtain ⟨c0, c1, c2, c3, c4⟩ := hbr.ext x
     have HOK := hd0 hok
     clear hc hbr hok
     cases hs : shortB c
     all_goals
      have HS := hd0 hs
      clear hs
      go_wp2_with fail
      go_at_call 91; refine (refShort_v c _ HS.out _ (HOK.out.below gro)).mono ?_; rintro e w' ⟨rfl, y1, rfl⟩
      go_wp2
     ·go_ret
      exact ⟨_, rfl, fun h => (by cases h), ext_of gro⟩
     ·go_roundw
      case rel => exact ⟨k + 1, by omega, by go_num, ext_of gro⟩
      case measure => simp [intOf]; omega
    ·obtain rfl : k = l.length := by omega
     go_wp2_with fail
     go_loopw [10, 11] (fun s i wr => ∃ (k : Nat) (R : Int), k ≤ rs.length ∧ i = .int .i64 k ∧ s = .int .i64 R ∧ (0 ≤ R ∧ R ≤ 100 * (k : Int)) ∧ ((∀ r ∈ rs, 1 ≤ r.count ∧ r.count ≤ 1000) → R = countS (rs.take k)) ∧ (∃ x, wr = ext w x)) (fun _ i _ => rs.length - (intOf i).toNat)
     case atStart => exact ⟨0, 0, by omega, rfl, rfl, by omega, fun _ => rfl, ext_of gro⟩
     case round =>
      obtain ⟨k, R, hk, rfl, rfl, hR, hri, ⟨x, rfl⟩⟩ := hrel
      obtain ⟨R0, R1⟩ := hR
      have HRI := hd0 hri
      clear hri
      by_cases hlt : k < rs.length
      ·obtain ⟨hmk, b0, off, rfl, hbr⟩ := H4.out k hlt
       have q1 : (0 : Int) ≤ (k : Int) := by omega
       have q2 : (k : Int) < (rs.length : Int) := by omega
       have hct := count_take hlt
       have hme := List.getElem_mem hlt
       obtain ⟨r, hr⟩ : ∃ r, rs[k] = r := ⟨_, rfl⟩
       rw [hr] at hbr hmk hct hme
       have HCT := hd0 hct
       have HME := hd0 hme
       obtain ⟨c0, c1, c2, c3, c4, c5, c6, c7, c8, c9⟩ := hbr.ext x
       clear hr hbr hct hme
       cases f1 : decide (60 < (r.mark.size : Int))
       ·skip
        cases f2 : decide (m < r.count)
        ·skip
         cases f4 : decide (0 < r.count)
         ·skip
          go_wp2
          go_roundw
          case rel => exact ⟨k + 1, R, by omega, by go_num, rfl, by omega, fun hc => by have h1 := HRI.out hc; have h2 := HCT.out; have h3 := hc _ HME.out; have p_f2 := of_decide_eq_false f2; have p_f4 := of_decide_eq_false f4; omega, ext_of gro⟩
          case measure => simp [intOf]; omega
         ·skip
          cases f5 : decide (r.count ≤ m)
          ·skip
           go_wp2
           go_roundw
           case rel => exact ⟨k + 1, R, by omega, by go_num, rfl, by omega, fun hc => by have h1 := HRI.out hc; have h2 := HCT.out; have h3 := hc _ HME.out; have p_f2 := of_decide_eq_false f2; have p_f5 := of_decide_eq_false f5; omega, ext_of gro⟩
           case measure => simp [intOf]; omega
          ·skip
           have p1 : 0 < r.count := by simpa using f4
           have p2 : r.count ≤ m := by simpa using f5
           go_wp2
           go_roundw
           case rel => exact ⟨k + 1, R + r.count, by omega, by go_num, rfl, by omega, fun hc => by have h1 := HRI.out hc; have h2 := HCT.out; have h3 := hc _ HME.out; omega, ext_of gro⟩
           case measure => simp [intOf]; omega
        ·skip
         cases f3 : decide (r.count ≤ 2000)
         ·skip
          cases f4 : decide (0 < r.count)
          ·skip
           go_wp2
           go_roundw
           case rel => exact ⟨k + 1, R, by omega, by go_num, rfl, by omega, fun hc => by have h1 := HRI.out hc; have h2 := HCT.out; have h3 := hc _ HME.out; have p_f3 := of_decide_eq_false f3; omega, ext_of gro⟩
           case measure => simp [intOf]; omega
          ·skip
           cases f5 : decide (r.count ≤ m)
           ·skip
            go_wp2
            go_roundw
            case rel => exact ⟨k + 1, R, by omega, by go_num, rfl, by omega, fun hc => by have h1 := HRI.out hc; have h2 := HCT.out; have h3 := hc _ HME.out; have p_f3 := of_decide_eq_false f3; omega, ext_of gro⟩
            case measure => simp [intOf]; omega
           ·skip
            have p1 : 0 < r.count := by simpa using f4
            have p2 : r.count ≤ m := by simpa using f5
            go_wp2
            go_roundw
            case rel => exact ⟨k + 1, R + r.count, by omega, by go_num, rfl, by omega, fun hc => by have h1 := HRI.out hc; have h2 := HCT.out; have h3 := hc _ HME.out; have p_f3 := of_decide_eq_false f3; omega, ext_of gro⟩
            case measure => simp [intOf]; omega
         ·skip
          go_wp2
          go_ret
          exact ⟨_, rfl, fun h => (by cases h), ext_of gro⟩
       ·skip
        go_wp2
        go_ret
        exact ⟨_, rfl, fun h => (by cases h), ext_of gro⟩
      ·obtain rfl : k = rs.length := by omega
       cases g1 : decide (R ≤ m)
       ·cases g2 : decide (n < (rs.length : Int))
        all_goals
         go_wp2
         go_ret
         exact ⟨_, rfl, fun h _ h60 => by first | (cases h; done) | (have := of_decide_eq_true g2; have := HN6.out; omega), ext_of gro⟩
       ·go_wp2
        go_ret
        exact ⟨_, rfl, fun _ hc _ => by (have h1 := HRI.out hc; rw [List.take_length] at h1; have := of_decide_eq_true g1; omega), ext_of gro⟩
  ·clear hq0
   go_wp2
   go_ret
   exact ⟨_, rfl, fun h => (by cases h), ext_of gro⟩

set_option maxHeartbeats 4000000
set_option maxRecDepth 100000

def RetPlace (w : World) (rs : List Rn) (i : Int) (e : Ending) (W : World) : Prop :=
 ∃ (k : Nat) (hk : k < rs.length) (j : Int), e = .returned (.tuple #[.int .i64 k, .int .i64 j]) ∧ placeR rs i = some (rs[k], j) ∧ (0 ≤ j ∧ j < rs[k].count) ∧ ∃ x, W = ext w x

theorem refPlace_c (rs : List Rn) (u : Value) (i : Int) (hc : ∀ r ∈ rs, 1 ≤ r.count ∧ r.count ≤ 1000) (h0 : 0 ≤ i) (hi : i < countS rs) (hm : countS rs ≤ 2000) (w : World) (hr : Runs w u rs) :
  Calls Tryz.prog 249 #[u, .int .i64 i] w (RetPlace w rs i) := by
 obtain ⟨a, cap, rfl, h2, h3, h4⟩ := hr.shape
 have H4 := hd0 h4
 have HC := hd0 hc
 have hne : 0 < rs.length := by
  cases rs with
  | nil => simp only [countS] at hi; omega
  | cons r rs => simp
 have HI := hd0 hi
 clear hr h4 hc hi
 go_enter Tryz.func249, Tryz.ntmps249
 go_wp2_with fail
 go_loopw [1, 6] (fun iv kv wr => ∃ (k : Nat) (I : Int), k < rs.length ∧ kv = .int .i64 k ∧ iv = .int .i64 I ∧ (0 ≤ I ∧ I ≤ 2000) ∧ I < countS (rs.drop k) ∧ placeR (rs.drop k) I = placeR rs i ∧ ∃ x, wr = ext w x) (fun _ kv _ => rs.length - (intOf kv).toNat)
 case atStart => exact ⟨0, i, hne, rfl, rfl, by have := HI.out; omega, HI.out, rfl, ext_of gro⟩
 case round =>
  obtain ⟨k, I, hk, rfl, rfl, ⟨hI0, hI1⟩, hI2, hpl, x, rfl⟩ := hrel
  obtain ⟨_, b0, off, rfl, hbr⟩ := H4.out k hk
  have i1 : (0 : Int) ≤ (k : Int) := by omega
  have i2 : (k : Int) < (rs.length : Int) := by omega
  have hcr := HC.out _ (List.getElem_mem hk)
  have hd := List.drop_eq_getElem_cons hk
  rw [hd, placeR] at hpl
  rw [hd, countS] at hI2
  have hnext : rs[k].count ≤ I → k + 1 < rs.length := fun h => by
   rcases Nat.lt_or_ge (k + 1) rs.length with h1 | h1
   ·exact h1
   ·rw [List.drop_of_length_le h1, countS] at hI2; omega
  have HN := hd0 hnext
  have HP := hd0 hpl
  have HI2 := hd0 hI2
  clear hd hpl hnext hI2
  obtain ⟨r, hr⟩ : ∃ r, rs[k] = r := ⟨_, rfl⟩
  rw [hr] at hbr hcr HN HP HI2
  have HR := hd0 hr
  obtain ⟨c0, c1, c2, c3, c4, c5, c6, c7, c8, c9⟩ := hbr.ext x
  obtain ⟨hc1, hc2⟩ := hcr
  clear hr hbr
  by_cases hlt : I < r.count
  ·have d1 : decide (r.count ≤ I) = false := by simp; omega
   go_wp2
   go_ret2
   exact ⟨k, hk, I, rfl, by rw [HR.out, ← HP.out, if_pos hlt], by rw [HR.out]; omega, ext_of gro⟩
  ·have d1 : decide (r.count ≤ I) = true := by simp; omega
   go_wp2
   go_roundw
   case rel => exact ⟨k + 1, I - r.count, HN.out (by omega), by go_num, rfl, by omega, by have := HI2.out; omega, by rw [← HP.out, if_neg hlt], ext_of gro⟩
   case measure => simp [intOf]; omega

theorem laid_counts {l : List Br} {rs : List Rn} (h : laidB l rs = true) : ∀ r ∈ rs, 1 ≤ r.count ∧ r.count ≤ 1000 := fun r hr => runB_count ((laidB_iff.1 h).2.2.1 r hr)
theorem laid_most {l : List Br} {rs : List Rn} (h : laidB l rs = true) : countS rs ≤ 2000 := (laidB_iff.1 h).2.2.2

theorem refBar_c (l : List Br) (rs : List Rn) (v u : Value) (i : Int) (hv : laidB l rs = true) (h0 : 0 ≤ i) (hi : i < countS rs) (w : World) (hl : Bars w v l) (hr : Runs w u rs) :
  Calls Tryz.prog 250 #[v, u, .int .i64 i] w (Ret w (.agg #[.string (barOf l (markI rs i)).mark, .int .i64 (barOf l (markI rs i)).size, .int .i64 (barOf l (markI rs i)).count, .int .i64 (barOf l (markI rs i)).code, (barOf l (markI rs i)).dv])) := by
 have HPL := hd0 (fun w hr => refPlace_c rs u i (laid_counts hv) h0 hi (laid_most hv) w hr)
 have HL := hd0 hl
 have HR := hd0 hr
 have HF := hd0 (fun w m hl => refFind_c l v m w hl)
 have hmk := (mark_of hv h0 hi).2.1
 obtain ⟨a, cap, rfl, g2, g3, g4⟩ := hl.shape
 obtain ⟨a', cap', rfl, h2, h3, h4⟩ := hr.shape
 have G4 := hd0 g4
 have H4 := hd0 h4
 have HMK := hd0 hmk
 clear hl hr g4 h4 hmk
 go_enter Tryz.func250, Tryz.ntmps250
 go_wp2_with fail
 go_at_call 249; refine (HPL.out _ (HR.out.below gro)).mono ?_; rintro e w' ⟨k, hk, j, rfl, hp, hj, x1, rfl⟩
 obtain ⟨_, b0, off, rfl, hbr⟩ := H4.out k hk
 have i1 : (0 : Int) ≤ (k : Int) := by omega
 have i2 : (k : Int) < (rs.length : Int) := by omega
 have hmr : markI rs i = rs[k].mark := by unfold markI; rw [hp]
 have HMR := hd0 hmr
 obtain ⟨r, hr⟩ : ∃ r, rs[k] = r := ⟨_, rfl⟩
 rw [hr] at hbr HMR
 have hk2 := HMK.out
 rw [HMR.out] at hk2
 rcases findI_cases l r.mark with ⟨e1, -⟩ | ⟨q, hq, e1, -, -⟩
 ·omega
 have HBO := hd0 (show barOf l (markI rs i) = l[q] by
  rw [HMR.out]; unfold barOf; rw [e1]; simp [List.getD, hq])
 obtain ⟨hok, b1, off1, rfl, hbb⟩ := G4.out q hq
 have HFI := hd0 (fun w hl => HF.out w r.mark hl)
 rw [e1] at HFI
 have j1 : (0 : Int) ≤ (q : Int) := by omega
 have j2 : (q : Int) < (l.length : Int) := by omega
 obtain ⟨b, hb⟩ : ∃ b, l[q] = b := ⟨_, rfl⟩
 rw [hb] at hbb HBO hok
 have c0 := hbr.1
 obtain ⟨ad, cd, ev, -, -, -⟩ := hok.dims
 obtain ⟨mark, size, count, code, dims, dv⟩ := b
 simp only at ev
 subst ev
 obtain ⟨d0, d1, d2, d3, d4⟩ := hbb
 simp only at d0 d1 d2 d3 d4
 clear hr hbr hk2 e1 hb hmr hp hj HMK HF hok
 go_wp2_with fail
 go_at_call 151; refine (HFI.out _ (HL.out.below gro)).mono ?_; rintro e w' ⟨rfl, x2, rfl⟩
 go_wp2
 rw [HBO.out]
 refine bodyPost_ret (v := .agg #[.string mark, .int .i64 size, .int .i64 count, .int .i64 code, .slice ad dims.length cd]) (by simp [results, Tryz.results250, go_sem]) rfl ?_
 exact Ret.of gro

def RetPtsO (w : World) (l : List Pt) (e : Ending) (W : World) : Prop := ∃ v, e = .returned v ∧ W.ownsRow w.heap.size 38 3 v l.length (ptCells l) ∧ ∃ x, W = ext w x

theorem refPts_c (l : List Br) (rs : List Rn) (v u : Value) (i : Int) (hv : laidB l rs = true) (h0 : 0 ≤ i) (hi : i < countS rs) (w : World) (hl : Bars w v l) (hr : Runs w u rs) :
  Calls Tryz.prog 213 #[v, u, .int .i64 i] w (RetPtsO w (pathI l rs i)) := by
 have HPL := hd0 (fun w hr => refPlace_c rs u i (laid_counts hv) h0 hi (laid_most hv) w hr)
 have HBA := hd0 (fun w hl hr => refBar_c l rs v u i hv h0 hi w hl hr)
 have HL := hd0 hl
 have HR := hd0 hr
 have HV := hd0 hv
 have hmk := mark_of hv h0 hi
 obtain ⟨q, hq, eb⟩ := List.getElem_of_mem (bar_mem hmk.2.1)
 obtain ⟨ba, bcap, rfl, g2, g3, g4⟩ := hl.shape
 have HBO := hd0 (show BrOk w (barOf l (markI rs i)) by rw [← eb]; exact (g4 q hq).1)
 have HSH := hd0 (schedB_shape (laidB_iff.1 hv).1 _ (bar_mem hmk.2.1))
 obtain ⟨a', cap', rfl, h2, h3, h4⟩ := hr.shape
 have H4 := hd0 h4
 clear hl hr h4 g4 eb hmk hv
 go_enter Tryz.func213, Tryz.ntmps213
 go_wp2_with fail
 go_at_call 249; refine (HPL.out _ (HR.out.below gro)).mono ?_; rintro e w' ⟨k, hk, j, rfl, hp, ⟨hj0, hj1⟩, x1, rfl⟩
 obtain ⟨_, b0, off, rfl, hbr⟩ := H4.out k hk
 have i1 : (0 : Int) ≤ (k : Int) := by omega
 have i2 : (k : Int) < (rs.length : Int) := by omega
 have hmr : markI rs i = rs[k].mark := by unfold markI; rw [hp]
 have hpi : pathI l rs i = laidL (barOf l (markI rs i)) rs[k] j := by unfold pathI; rw [hp, hmr]
 have HPI := hd0 hpi
 have hrb := (laidB_iff.1 HV.out).2.2.1 _ (List.getElem_mem hk)
 obtain ⟨r, hr⟩ : ∃ r, rs[k] = r := ⟨_, rfl⟩
 rw [hr] at hbr HPI hrb hj1
 have hct := runB_count hrb
 rw [runB_eq] at hrb
 simp only [right1, right2, Bool.and_eq_true, Bool.or_eq_true, decide_eq_true_iff] at hrb
 obtain ⟨⟨_, ht, _, _, ha⟩, hs2, _⟩ := hrb
 have HPT := hd0 (fun w hb => refPoints_c (barOf l (markI rs i)) r j HSH.out ht (near_iff.1 ha) (by omega) (fun h => by
  rcases hs2 with h' | h'
  ·omega
  ·exact near_iff.1 h'.2) w hb)
 obtain ⟨b, hb⟩ : ∃ b, barOf l (markI rs i) = b := ⟨_, rfl⟩
 rw [hb] at HBA HBO HPT HPI
 obtain ⟨c0, c1, c2, c3, c4, c5, c6, c7, c8, c9⟩ := hbr.ext x1
 clear hr hbr hp hmr hpi ht ha hs2 hb HSH hct
 go_wp2_with fail
 refine wp_region_tail 9 (by kernel_rfl) (by kernel_rfl) ?_; simp only [List.take_succ_cons, List.take_zero, List.drop_succ_cons, List.drop_zero]
 repeat (go_big_quiet_step ((go_at_call 250; exact Calls.quiet_ext (HBA.out _ (HL.out.below gro) (HR.out.below gro)))))
 refine wpQuiet_nil ?_; rintro _ ⟨xq, rfl⟩
 go_wp2_with fail
 go_at_call 156; refine (HPT.out _ (HBO.out.below gro)).mono ?_; rintro e w' ⟨v9, rfl, hown, x9, rfl⟩
 go_wp2
 go_ret
 exact ⟨v9, rfl, by rw [HPI.out]; exact own_mono hown (by simp only [size_ext]; omega), ext_of gro⟩

set_option maxHeartbeats 4000000
set_option maxRecDepth 100000

theorem refHull2_c (p q : Pt) (v : Value) (w : World) (hv : Pts w v [p, q]) : Calls Tryz.prog 214 #[v] w (Ret w (.agg #[.int .i64 (legB p q).lx, .int .i64 (legB p q).ly, .int .i64 (legB p q).lz, .int .i64 (legB p q).hx, .int .i64 (legB p q).hy, .int .i64 (legB p q).hz])) := by
 obtain ⟨a, cap, rfl, h2, h3, h4⟩ := hv.shape
 obtain ⟨b0, off, rfl, p0, p1, p2⟩ := h4 0 (by simp)
 obtain ⟨b1, off1, e1, q0, q1, q2⟩ := h4 1 (by simp)
 cases e1
 simp only [List.getElem_cons_zero, List.getElem_cons_succ, List.length_cons, List.length_nil, Nat.zero_mul, Nat.one_mul, Nat.add_zero, Nat.zero_add] at p0 p1 p2 q0 q1 q2 h2 ⊢
 have HE := hd0 (show legB p q = ⟨min p.x q.x, min p.y q.y, min p.z q.z, max p.x q.x, max p.y q.y, max p.z q.z⟩ from rfl)
 clear hv h4
 go_enter Tryz.func214, Tryz.ntmps214
 go_wp2_with fail
 go_region
 go_wp2_with fail
 refine wp_loop_rounds 2 ?_
 rw [rounds_succ]
 go_wp2
 rw [rounds_succ]
 go_wp2
 rw [HE.out]
 refine bodyPost_ret (v := (.agg #[.int .i64 (⟨min p.x q.x, min p.y q.y, min p.z q.z, max p.x q.x, max p.y q.y, max p.z q.z⟩ : Bx).lx, .int .i64 (⟨min p.x q.x, min p.y q.y, min p.z q.z, max p.x q.x, max p.y q.y, max p.z q.z⟩ : Bx).ly, .int .i64 (⟨min p.x q.x, min p.y q.y, min p.z q.z, max p.x q.x, max p.y q.y, max p.z q.z⟩ : Bx).lz, .int .i64 (⟨min p.x q.x, min p.y q.y, min p.z q.z, max p.x q.x, max p.y q.y, max p.z q.z⟩ : Bx).hx, .int .i64 (⟨min p.x q.x, min p.y q.y, min p.z q.z, max p.x q.x, max p.y q.y, max p.z q.z⟩ : Bx).hy, .int .i64 (⟨min p.x q.x, min p.y q.y, min p.z q.z, max p.x q.x, max p.y q.y, max p.z q.z⟩ : Bx).hz])) (by simp [results, Tryz.results214, go_sem]) rfl ?_
 exact Ret.of gro

def RetBxsO (w : World) (l : List Bx) (e : Ending) (W : World) : Prop := ∃ v, e = .returned v ∧ W.ownsRow w.heap.size 40 6 v l.length (boxCells l) ∧ ∃ x, W = ext w x

theorem refLegs_c (l : List Br) (rs : List Rn) (v u : Value) (i : Int) (hv : laidB l rs = true) (h0 : 0 ≤ i) (hi : i < countS rs) (w : World) (hl : Bars w v l) (hr : Runs w u rs) :
  Calls Tryz.prog 161 #[v, u, .int .i64 i] w (RetBxsO w (legsI l rs i)) := by
 have HP := hd0 (fun w hl hr => refPts_c l rs v u i hv h0 hi w hl hr)
 have HL := hd0 hl
 have HR := hd0 hr
 have hlen := pathI_len l rs i
 have HI := hd0 (show legsI l rs i = legsP (pathI l rs i) from rfl)
 obtain ⟨P, hP⟩ : ∃ P, pathI l rs i = P := ⟨_, rfl⟩
 rw [hP] at HP HI hlen
 clear hv h0 hi hP hl hr
 go_enter Tryz.func161, Tryz.ntmps161
 go_wp2_with fail
 go_at_call 213; refine (HP.out _ (HL.out.below gro) (HR.out.below gro)).mono ?_; rintro e w' ⟨v8, rfl, hown0, x1, rfl⟩
 have hpt := Pts.of_own hown0
 obtain ⟨a, cap, rfl, h2, h3, h4⟩ := hpt.shape
 have H4 := hd0 h4
 clear hpt h4 hown0
 go_wp2_with fail
 go_loopw [8, 9] (fun v i wr => ∃ k : Nat, 1 ≤ k ∧ (k ≤ P.length ∨ k = 1) ∧ i = .int .i64 k ∧ (∃ x, wr = ext (ext w x1) x) ∧ wr.ownsRow (ext w x1).heap.size 40 6 v (k - 1) (boxCells (legsP (P.take k)))) (fun _ i _ => P.length - (intOf i).toNat)
 case atStart => exact ⟨1, by omega, .inr rfl, by go_num, ext_of (Below.refl _ _), by cases P with | nil => exact World.ownsRow_nil _ _ _ _ | cons p P => exact World.ownsRow_nil _ _ _ _⟩
 case round =>
  obtain ⟨k, hk1, hk, rfl, ⟨x, rfl⟩, hown⟩ := hrel
  have HO := hd0 hown
  obtain ⟨av, cv, rfl, hv1, hv2, -⟩ := own_shape hown
  have hv3 : cv ≤ 9223372036854775807 := hv2
  by_cases hlt : k < P.length
  ·have q1 : (1 : Int) ≤ (k : Int) := by omega
   have q2 : (k : Int) < (P.length : Int) := by omega
   obtain ⟨b, off, rfl, hp0⟩ := H4.out (k - 1) (by omega)
   have q3 : 0 ≤ (k : Int) - 1 := by omega
   have q4 : (k : Int) - 1 ≤ (k : Int) + 1 := by omega
   have q5 : (k : Int) + 1 ≤ (cap : Int) := by omega
   have q6 : ((k : Int) + 1).toNat = k + 1 := by omega
   have hpair : Pts (ext (ext w x1) x) (.slice (some ⟨b, off + (k - 1) * 3, none⟩) 2 (cap - (k - 1))) [P[k - 1], P[k]] := by
    refine ⟨_, _, rfl, by simp; omega, by omega, fun j hj => ⟨b, _, rfl, ?_⟩⟩
    obtain ⟨b', off', e', hq0⟩ := H4.out k hlt
    cases e'
    rcases (show j = 0 ∨ j = 1 by simp at hj; omega) with rfl | rfl
    ·exact hp0.ext x
    ·rw [show off + (k - 1) * 3 + 1 * 3 = off + k * 3 by omega]; exact hq0.ext x
   have hlt2 := legsP_take hk1 hlt
   generalize P[k - 1] = p at *
   generalize P[k] = q at *
   have HPA := hd0 hpair
   have HLT := hd0 hlt2
   have hll := legsP_len (P.take k)
   rw [List.length_take] at hll
   have HLL := hd0 (show k - 1 = (legsP (P.take k)).length by omega)
   have HH := hd0 (fun v w hl => refHull2_c p q v w hl)
   generalize legB p q = L at *
   clear hown hpair hlt2 hp0 hll
   go_wp2_with fail
   rw [show k + 1 - (k - 1) = 2 by omega]
   go_at_call 214; refine (HH.out _ _ HPA.out).mono ?_; rintro e w' ⟨rfl, x3, rfl⟩
   go_wp2_with (at_builtin; refine app_own_b rfl _ _ 22 rfl 40 (.agg #[.int .i64 0, .int .i64 0, .int .i64 0, .int .i64 0, .int .i64 0, .int .i64 0]) 6 48 Tryz.underlying22 info_box' rfl (by decide) ((ext w x1).heap.size) (.slice av (k - 1) cv) (k - 1) (boxCells (legsP (P.take k))) _ rfl ((own_ext HO.out _).alloc _) _ 1 1 (boxCells [L]) rfl rfl (cells_new ?_ _ _ _ rfl) (boxCells_one _) (by omega) (by decide) ?_ ?_; (first | rfl | simp [size_ext]); (simp only [World.size_alloc, size_ext]; omega); intro v' w1 hown' hgrow; have HO2 := hd0 hown'; obtain ⟨a', c', rfl, _, hc2, -⟩ := own_shape hown'; have hc3 : c' ≤ 9223372036854775807 := hc2; have HGR := hd0 hgrow; clear hown' hgrow hc2)
   go_roundw
   case rel =>
    refine ⟨k + 1, by omega, .inl (by omega), by go_num, ?_, ?_⟩
    ·exact ext_grown2 (w := ext w x1) (grow_alloc _ (grow_ext _ (below_ext _ _))) HGR.out (fun j e => (HO.out.lt j e).1)
    ·rw [HLT.out]
     have := own_bxs HO2.out HLL.out
     rw [List.length_append, ← HLL.out, List.length_singleton, show k - 1 + 1 = k by omega] at this
     rw [show k + 1 - 1 = k by omega]
     exact this
   case measure => simp [intOf]; omega
  ·have hkl : P.length ≤ k := by omega
   have HF := hd0 (show legsP (P.take k) = legsP P by rw [List.take_of_length_le hkl])
   have hll := legsP_len P
   have HLL := hd0 (show k - 1 = (legsP P).length by omega)
   clear hown hll
   go_wp2
   go_ret
   exact ⟨_, rfl, by rw [HI.out, ← HLL.out, ← HF.out]; exact own_mono HO.out (by simp only [size_ext]; omega), ext_of gro⟩

set_option maxHeartbeats 8000000

theorem run_bar_size (mark : ByteArray) (size count code : Int) (ad : Option Addr) (n cd : Nat) (w : World) :
  (Instr.field 81 (.agg #[.string mark, .int .i64 size, .int .i64 count, .int .i64 code, .slice ad n cd]) 1).run Tryz.prog w = .ok (.int .i64 size) w := by kernel_rfl
attribute [local go_sem] run_bar_size

end Go.Proofs.YtkjljneehgmmaaaGreat

namespace Go.Proofs.YtkjljneehgmmaaaGreat
open Go.RowKit
set_option maxRecDepth 20000
set_option maxHeartbeats 4000000

end Go.Proofs.YtkjljneehgmmaaaGreat


