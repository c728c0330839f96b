/- A map of a number for each mark of a schedule. -/
import Derived.Test.YtmhhohancconaaaGreatLaidK3
import Derived.Maps.Own
import Derived.Maps.Views
namespace Go.Proofs.YtmhhohancconaaaGreat
open Go.RowKit
set_option maxRecDepth 20000

def szOf (g : Br → Int) (l : List Br) (s : List UInt8) : Int := l.foldl (fun a b => if b.mark.data.toList = s then g b else a) 0
theorem szOf_snoc (g : Br → Int) (l : List Br) (b : Br) (s : List UInt8) : szOf g (l ++ [b]) s = if b.mark.data.toList = s then g b else szOf g l s := by
  unfold szOf; rw [List.foldl_append]; rfl
theorem mark_ne {a b : ByteArray} (h : (a.toList == b.toList) = false) : a.data.toList ≠ b.data.toList := by
  intro e
  rw [sEq (ByteArray.ext (Array.ext' e))] at h
  cases h
theorem szOf_skip (g : Br → Int) {l : List Br} {m : ByteArray} (h : ∀ b ∈ l, (b.mark.toList == m.toList) = false) (a : Int) : l.foldl (fun a b => if b.mark.data.toList = m.data.toList then g b else a) a = a := by
  induction l generalizing a with
  | nil => rfl
  | cons b l ih =>
    rw [List.foldl_cons, if_neg (mark_ne (h b List.mem_cons_self))]
    exact ih (fun x hx => h x (List.mem_cons_of_mem _ hx)) a
/-- In a valid schedule each mark stands in one line. -/
theorem sched_other {l : List Br} (h : schedB l = true) {m : ByteArray} {k : Nat} (hk : findI l m = k) : ∀ j (hj : j < l.length), j ≠ k → (l[j].mark.toList == m.toList) = false := by
  intro j hj hne
  cases e : l[j].mark.toList == m.toList with
  | false => rfl
  | true =>
    exfalso
    unfold schedB at h
    simp only [Bool.and_eq_true, List.all_eq_true, decide_eq_true_iff] at h
    have h1 := (h.2 j (List.mem_range.2 hj)).2
    rw [show l.getD j noBar = l[j] by simp [List.getD, hj]] at h1
    have : l[j].mark = m := sEq_iff.1 e
    rw [this, hk] at h1
    omega
theorem szOf_find (g : Br → Int) {l : List Br} (h : schedB l = true) {m : ByteArray} (hf : 0 ≤ findI l m) : szOf g l m.data.toList = g (barOf l m) := by
  rcases findI_cases l m with ⟨e, _⟩ | ⟨k, hk, e, hp, _⟩
  · rw [e] at hf; exact absurd hf (by decide)
  have ho := sched_other h e
  have hb : barOf l m = l[k] := by unfold barOf; rw [e]; simp [hk]
  rw [hb]
  have hm : l[k].mark = m := sEq_iff.1 hp
  unfold szOf
  have hd : l = l.take k ++ l[k] :: l.drop (k + 1) := by rw [← List.drop_eq_getElem_cons hk, List.take_append_drop]
  rw [show l.foldl (fun a b => if b.mark.data.toList = m.data.toList then g b else a) 0 = (l.take k ++ l[k] :: l.drop (k + 1)).foldl (fun a b => if b.mark.data.toList = m.data.toList then g b else a) 0 by rw [← hd]]
  rw [List.foldl_append, List.foldl_cons, if_pos (by rw [hm]), szOf_skip]
  intro b hb
  obtain ⟨j, hj, rfl⟩ := List.getElem_of_mem hb
  rw [List.getElem_drop]
  exact ho _ _ (by omega)

def SzMap (g : Br → Int) (w : World) (b n : Nat) (l : List Br) : Prop := ∃ D : DataW Unit, w.ownsMap Tryz.prog 9 (plainElem Tryz.prog 3) b n D ∧ Maps.IsMap D ∧ ∀ s : List UInt8, D.atKey (.string s) (.lit (.int .i64 0)) = .lit (.int .i64 (szOf g l s))
theorem zero_int (w : World) : (zeroValue 3).run Tryz.prog w = .ok (.int .i64 0) w := by kernel_rfl
theorem marks_law : Maps.Keyed Tryz.prog 9 := Maps.string_keyed Tryz.underlying9
theorem SzMap.ext {g : Br → Int} {w : World} {b n : Nat} {l : List Br} (h : SzMap g w b n l) (x : World) : SzMap g (ext w x) b n l := by
  obtain ⟨D, h1, h2, h3⟩ := h
  exact ⟨D, h1.kept (row := none) ⟨(below_ext w x).os, (below_ext w x).tape, (below_ext w x).output, (below_ext w x).size, fun k hk _ => (below_ext w x).block k hk⟩ (by simp), h2, h3⟩
theorem SzMap.below {g : Br → Int} {w w' : World} {b n : Nat} {l : List Br} (h : SzMap g w b n l) (hb : Below w.heap.size w w') : SzMap g w' b n l := by
  obtain ⟨x, rfl⟩ := ext_of hb
  exact h.ext x
theorem SzMap.look {g : Br → Int} {w : World} {b n : Nat} {l : List Br} (h : SzMap g w b n l) (m : ByteArray) (hf : m.size ≤ 9223372036854775807) :
    (Instr.lookup 116 (.map (some b)) (.string m) false).run Tryz.prog w = .ok (.int .i64 (szOf g l m.data.toList)) w := by
  obtain ⟨D, h1, h2, h3⟩ := h
  obtain ⟨v, ps, hrun, hv⟩ := h1.lookup marks_law Tryz.underlying116 (zero_int w) (plainElem_int Tryz.underlying3 rfl) (WideMaps.keyOf_string_mk Tryz.underlying9 (by unfold maxLen; exact hf))
  rw [h3] at hv
  rw [hrun]
  obtain ⟨c, rfl, hc, _⟩ := plainElem_int_inv Tryz.underlying3 hv
  simp only [Prod.mk.injEq, DataW.lit.injEq, Lit.int.injEq, true_and] at hc
  rw [← hc.1]
theorem SzMap.made (g : Br → Int) (w : World) : SzMap g (w.alloc (.map #[] 0)) w.heap.size 0 [] :=
  ⟨.map [], World.ownsMap_made _ _ _ _, ⟨_, rfl⟩, fun _ => rfl⟩
theorem SzMap.put {g : Br → Int} {w' : World} {b n : Nat} {l : List Br} {f : Br} {D : DataW Unit} (h2 : Maps.IsMap D) (h3 : ∀ s : List UInt8, D.atKey (.string s) (.lit (.int .i64 0)) = .lit (.int .i64 (szOf g l s)))
    (h : w'.ownsMap Tryz.prog 9 (plainElem Tryz.prog 3) b n (D.put (.string f.mark.data.toList) (.lit (.int .i64 (g f))))) : SzMap g w' b n (l ++ [f]) := by
  refine ⟨_, h, Maps.IsMap.put h2 _ _, fun s => ?_⟩
  rw [szOf_snoc]
  by_cases he : f.mark.data.toList = s
  · subst he
    rw [Maps.atKey_put_same h2 (by trivial), if_pos rfl]
  · rw [Maps.atKey_put_other (by simpa using fun e => he e.symm), h3, if_neg he]
theorem size_wf {d : Int} (h : sizeB d = true) : (Lit.int .i64 d).wf = true := by
  rcases size_iff.1 h with rfl | rfl | rfl | rfl | rfl | rfl | rfl | rfl | rfl <;> rfl
def sizeF (b : Br) : Int := b.size

end Go.Proofs.YtmhhohancconaaaGreat
