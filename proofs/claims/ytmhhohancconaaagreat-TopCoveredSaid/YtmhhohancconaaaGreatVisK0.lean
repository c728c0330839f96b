/- Clip, Seen, VisA, VisB in one text. -/
import Derived.Test.YtmhhohancconaaaGreatSolK
import Derived.Maps.AppendAt
import Derived.Test.YtmhhohancconaaaGreatSzMap
import Derived.Test.YtmhhohancconaaaGreatCutK
namespace Go.Proofs.YtmhhohancconaaaGreat
open Go Go.RowKit
set_option maxRecDepth 20000

theorem app_clip {P : Program} {ops : Array Oper} {rest : List Oper} {o : Oper} {a : Act} {Q : Exit → Act → World → Prop} (hgd : o.guard = none) (s x : Operand) (t : TypeId)
    (ho : o.op = .call { callee := .builtin .append, args := #[s, x], argTypes := #[t, t] })
    (e : TypeId) (z : Value) (size bytes : Nat) (ht : P.underlying t = some (.slice e)) (hi : (P.info? e).map (fun i => (i.zero, i.size, i.bytes)) = some (some z, size, bytes)) (hzs : z.cells.size = size)
    (w : World) (b n : Nat) (xs : List Value) (hs : a.eval s = .slice (some ⟨b, 0, none⟩) n n) (hxl : xs.length = n * size) (hc : ∀ j u, xs[j]? = some u → w.cell? ((⟨b, 0, none⟩ : Addr).add j) = some u)
    (g m c : Nat) (news : List Value) (hx : a.eval x = .slice (some ⟨g, 0, none⟩) m c) (hl : news.length = m * size) (hnews : ∀ j u, news[j]? = some u → w.cell? ((⟨g, 0, none⟩ : Addr).add j) = some u) (hm : 0 < m)
    (hroom : (n + m) * bytes ≤ 140737488355328) (hby : 0 < bytes)
    (h : ∀ v' y, (ext w y).ownsRow w.heap.size e size v' (n + m) (xs ++ news) → wpList P ops Q rest (a.put o.dst v') (ext w y)) : wpList P ops Q (o :: rest) a w := by
  obtain ⟨i, hi0, hz, h1, h2⟩ := info_parts hi
  subst h1 h2
  have h63 : n + m ≤ maxLen := by
    unfold maxLen
    have := Nat.le_mul_of_pos_right (n + m) hby
    omega
  have hr := run_append_grow (P := P) w t o.type e i z ht hi0 hz ⟨b, 0, none⟩ n n xs hxl hc ⟨g, 0, none⟩ m c news hl hnews (by omega) (by simp only [maxLen] at h63; omega) (growslice_fits (by omega) hroom)
  refine Lib.wpList_append_run w hgd s x t t ho _ _ hs hx _ _ hr ?_
  have hge := grownCap_ge w (n + m) n e
  have hcm := grownCap_le_maxLen w (n + m) n e h63
  have hlen : (xs ++ news).length = (n + m) * i.size := by rw [List.length_append, hxl, hl, Nat.add_mul]
  generalize hK : grownCap w (n + m) n e = K at *
  obtain ⟨y, hy⟩ := ext_of (w := w) (w' := w.drew.alloc (.cells (xs.toArray ++ news.toArray ++ Builtin.zeroCells z.cells (K - (n + m))) e)) (grow_alloc _ (Below.refl w.heap.size w).drew)
  rw [hy]
  refine h _ y ?_
  rw [← hy]
  refine ⟨hlen, .inr ⟨w.heap.size, K, _, rfl, Nat.le_refl _, heap_alloc_new w.drew _, hge, hcm, ?_, ?_⟩⟩
  · rw [Array.size_append, Array.size_append, List.size_toArray, List.size_toArray, size_zeroCells, hzs, hxl, hl, ← Nat.add_mul, ← Nat.add_mul]
    congr 1
    omega
  · have e1 : (xs.toArray ++ news.toArray ++ Builtin.zeroCells z.cells (K - (n + m))).toList = (xs ++ news) ++ (Builtin.zeroCells z.cells (K - (n + m))).toList := by simp
    rw [e1, ← hlen]
    exact List.take_left
end Go.Proofs.YtmhhohancconaaaGreat

namespace Go.Proofs.YtmhhohancconaaaGreat
open Go.RowKit
set_option maxRecDepth 20000

theorem plainElem_bool_inv' {P : Program} {e : TypeId} (he : P.underlying e = some .bool) {v : Value} {z : DataW Unit × List MemPlace} (h : plainElem P e v = some z) : ∃ c, v = .bool c ∧ z = (.lit (.bool c), []) := by
  unfold plainElem at h
  rw [he] at h
  cases v <;> simp at h
  exact ⟨_, rfl, h.symm⟩
theorem zero_boolS (w : World) : (zeroValue 4).run Tryz.prog w = .ok (.bool false) w := by kernel_rfl
theorem ints_law : Maps.Keyed Tryz.prog 3 := Maps.int_keyed Tryz.underlying3
def SeenM (w : World) (b n : Nat) (S : Int → Bool) : Prop := ∃ D : DataW Unit, w.ownsMap Tryz.prog 3 (plainElem Tryz.prog 4) b n D ∧ Maps.IsMap D ∧ ∀ k : Int, D.atKey (.int .i64 k) (.lit (.bool false)) = .lit (.bool (S k))
theorem SeenM.same {w w' : World} {b n : Nat} {S : Int → Bool} (h : SeenM w b n S) (e : w'.heap[b]? = w.heap[b]?) : SeenM w' b n S := by
  obtain ⟨D, ⟨es, clock, h1, h2⟩, h3⟩ := h
  exact ⟨D, ⟨es, clock, e.trans h1, h2⟩, h3⟩
theorem SeenM.lt {w : World} {b n : Nat} {S : Int → Bool} (h : SeenM w b n S) : b < w.heap.size := by
  obtain ⟨D, h1, -⟩ := h
  exact h1.lt
theorem SeenM.below {w w' : World} {b n : Nat} {S : Int → Bool} (h : SeenM w b n S) (hb : Below w.heap.size w w') : SeenM w' b n S := h.same (hb.block b h.lt)
theorem SeenM.look {w : World} {b n : Nat} {S : Int → Bool} (h : SeenM w b n S) (k : Int) (hk : (Lit.int .i64 k).wf = true) : (Instr.lookup 142 (.map (some b)) (.int .i64 k) false).run Tryz.prog w = .ok (.bool (S k)) w := by
  obtain ⟨D, h1, h2, h3⟩ := h
  obtain ⟨v, ps, hrun, hv⟩ := h1.lookup ints_law Tryz.underlying142 (zero_boolS w) (plainElem_bool Tryz.underlying4 false) (Maps.keyOf_int_mk Tryz.underlying3 hk)
  rw [h3] at hv
  rw [hrun]
  obtain ⟨c, rfl, hc⟩ := plainElem_bool_inv' Tryz.underlying4 hv
  simp only [Prod.mk.injEq, DataW.lit.injEq, Lit.bool.injEq] at hc
  rw [← hc.1]
theorem SeenM.made (w : World) : SeenM (w.alloc (.map #[] 0)) w.heap.size 0 (fun _ => false) := ⟨.map [], World.ownsMap_made _ _ _ _, ⟨_, rfl⟩, fun _ => rfl⟩
theorem SeenM.put {w' : World} {b n : Nat} {S : Int → Bool} {k : Int} {D : DataW Unit} (h2 : Maps.IsMap D) (h3 : ∀ k : Int, D.atKey (.int .i64 k) (.lit (.bool false)) = .lit (.bool (S k)))
    (h : w'.ownsMap Tryz.prog 3 (plainElem Tryz.prog 4) b n (D.put (.int .i64 k) (.lit (.bool true)))) : SeenM w' b n (fun j => if j = k then true else S j) := by
  refine ⟨_, h, Maps.IsMap.put h2 _ _, fun j => ?_⟩
  by_cases he : j = k
  · subst he
    rw [Maps.atKey_put_same h2 (by trivial)]
    simp
  · rw [Maps.atKey_put_other (by simpa using fun e => he e), h3]
    simp [he]
end Go.Proofs.YtmhhohancconaaaGreat

namespace Go.Proofs.YtmhhohancconaaaGreat
open Go.RowKit
set_option maxRecDepth 20000

/-- The search's block, and what lies behind it: the pieces, their order. -/
structure SrchAt (w : World) (gS g gO c4 : Nat) (best : Value) : Prop where
  blk : Blk w gS #[.int .i64 100, .slice (some ⟨g, 0, none⟩) 2 2, .slice (some ⟨gO, 0, none⟩) 4 c4, best] 112
  pcs : PcsB w g
  o0 : w.cell? ⟨gO, 0, none⟩ = some (.int .i64 0)
  o1 : w.cell? ⟨gO, 1, none⟩ = some (.int .i64 0)
  o2 : w.cell? ⟨gO, 2, none⟩ = some (.int .i64 1)
  o3 : w.cell? ⟨gO, 3, none⟩ = some (.int .i64 1)
theorem SrchAt.below {w w' : World} {gS g gO c4 : Nat} {best : Value} (h : SrchAt w gS g gO c4 best) (hb : Below w.heap.size w w') : SrchAt w' gS g gO c4 best := by
  have hc : ∀ {a : Addr} {v : Value}, w.cell? a = some v → w'.cell? a = some v := fun h => by obtain ⟨x, rfl⟩ := ext_of hb; exact cell_ext_some h x
  exact ⟨h.blk.below hb, Blk.below h.pcs hb, hc h.o0, hc h.o1, hc h.o2, hc h.o3⟩
set_option maxRecDepth 100000 in
set_option maxHeartbeats 4000000 in
/-- With a best of two, a visit with as many open lengths returns at once. -/
theorem pruned_c (gS g gO c4 bb cb k go n c : Nat) (hn : 2 ≤ n) (w : World) (h : SrchAt w gS g gO c4 (.slice (some ⟨bb, 0, none⟩) 2 cb)) :
    Calls Tryz.prog 43 #[.pointer (some ⟨gS, 0, none⟩), .int .i64 k, .slice (some ⟨go, 0, none⟩) n c] w (RetU w) := by
  have c3 : w.cell? ⟨gS, 3, none⟩ = some (.slice (some ⟨bb, 0, none⟩) 2 cb) := h.blk.cell 3
  have d1 : decide ((2 : Int) ≤ (n : Int)) = true := by simp; omega
  clear h
  go_enter Tryz.func43, Tryz.ntmps43
  go_wp2
  go_end0
  exact ⟨⟨_, rfl⟩, ext_of (by (repeat (first | exact grow_refl _ | refine grow_ext _ ?_ | refine grow_alloc _ ?_ | refine grow_drew ?_)))⟩

end Go.Proofs.YtmhhohancconaaaGreat

namespace Go.Proofs.YtmhhohancconaaaGreat
open Go.RowKit
set_option maxRecDepth 20000

set_option maxRecDepth 100000 in
set_option maxHeartbeats 4000000 in
theorem clone2_c (gp : Nat) (a b : Int) (w : World) (h : Blk w gp #[.int .i64 a, .int .i64 b] 3) :
    Calls Tryz.prog 70 #[.slice (some ⟨gp, 0, none⟩) 2 2] w (RetOwn w 3 1 2 [.int .i64 a, .int .i64 b]) := by
  have HB := Lib.hid h
  clear h
  have he := fun (w : World) (a : Option Addr) (n c : Nat) => Lib.run_eql_slice_nil (P := Tryz.prog) w 49 3 a n c 0 0 Tryz.underlying49
  go_enter Tryz.func70, Tryz.ntmps70
  go_wp2_with (at_builtin; refine app_any rfl _ _ 49 rfl 3 (.int .i64 0) 1 8 Tryz.underlying49 info_int rfl (by decide) w _ 0 [] _ rfl (World.ownsRow_made w #[] 0 (Nat.le_refl _) (by decide) (by simp)) (some ⟨gp, 0, none⟩) 2 2 [.int .i64 a, .int .i64 b] rfl rfl (fun h => by cases h) ?_ (by simp [Value.oneCell']) (by decide) (by decide) ?_ ?_; (intro a' ha j q hj; cases ha; have hb := HB.out.alloc (.cells #[] 3); match j, hj with | 0, hj => exact (hb.cell 0).trans hj | 1, hj => exact (hb.cell 1).trans hj | (j + 2), hj => simp at hj); ((repeat (first | exact grow_refl _ | refine grow_ext _ ?_ | refine grow_alloc _ ?_ | refine grow_drew ?_))); intro v1 x1 hown _)
  go_ret
  exact ⟨_, rfl, hown, ⟨_, rfl⟩⟩
set_option maxHeartbeats 1000000 in
theorem clip_c (go n c : Nat) (hn : n ≤ c) (_hc : c ≤ 9223372036854775807) (w : World) :
    Calls Tryz.prog 71 #[.slice (some ⟨go, 0, none⟩) n c] w (Ret w (.slice (some ⟨go, 0, none⟩) n n)) := by
  have q1 : (0 : Int) ≤ (n : Int) := by omega
  have q2 : (n : Int) ≤ (c : Int) := by omega
  go_enter Tryz.func71, Tryz.ntmps71
  go_wp2
  go_ret
  exact Ret.of (by (repeat (first | exact grow_refl _ | refine grow_ext _ ?_ | refine grow_alloc _ ?_ | refine grow_drew ?_)))
set_option maxHeartbeats 1000000 in
theorem clipNil_c (w : World) :
    Calls Tryz.prog 71 #[.slice none 0 0] w (Ret w (.slice none 0 0)) := by
  go_enter Tryz.func71, Tryz.ntmps71
  go_wp2
  go_ret
  exact Ret.of (by (repeat (first | exact grow_refl _ | refine grow_ext _ ?_ | refine grow_alloc _ ?_ | refine grow_drew ?_)))

end Go.Proofs.YtmhhohancconaaaGreat

