/- BaseK, CovK0 in one text. -/
import Derived.Test.YtkjljneehgmmaaaGreatBoxK2
import Derived.Test.YtkjljneehgmmaaaGreatBoxK
import Derived.OneCell
namespace Go.Proofs.YtkjljneehgmmaaaGreat
open Go.RowKit
set_option maxRecDepth 20000



def boxCells (l : List Bx) : List Value := l.flatMap fun b => [.int .i64 b.lx, .int .i64 b.ly, .int .i64 b.lz, .int .i64 b.hx, .int .i64 b.hy, .int .i64 b.hz]
theorem boxCells_get (l : List Bx) (i : Nat) (h : i < l.length) : (boxCells l)[i * 6]? = some (.int .i64 l[i].lx) ∧ (boxCells l)[i * 6 + 1]? = some (.int .i64 l[i].ly) ∧ (boxCells l)[i * 6 + 2]? = some (.int .i64 l[i].lz) ∧
  (boxCells l)[i * 6 + 3]? = some (.int .i64 l[i].hx) ∧ (boxCells l)[i * 6 + 4]? = some (.int .i64 l[i].hy) ∧ (boxCells l)[i * 6 + 5]? = some (.int .i64 l[i].hz) := by
 induction l generalizing i with
 | nil => simp at h
 | cons a l ih =>
   cases i with
   | zero => simp [boxCells]
   | succ i =>
     have := ih i (by simpa using h)
     have hc : ∀ k, (boxCells (a :: l))[(i + 1) * 6 + k]? = (boxCells l)[i * 6 + k]? := fun k => by
      rw [show (i + 1) * 6 + k = (i * 6 + k) + 1 + 1 + 1 + 1 + 1 + 1 by omega]
      simp only [boxCells, List.flatMap_cons, List.cons_append, List.nil_append, List.getElem?_cons_succ]
     have h0 := hc 0
     rw [Nat.add_zero, Nat.add_zero] at h0
     rw [h0, hc, hc, hc, hc, hc]
     exact this
theorem Boxes.of_own {w : World} {base : Nat} {e : TypeId} {v : Value} {l : List Bx} (h : w.ownsRow base e 6 v l.length (boxCells l)) : Boxes w v l := by
 obtain ⟨a, cap, rfl, h1, h2, h3⟩ := own_shape h
 unfold maxLen at h2
 refine ⟨a, cap, rfl, h1, by omega, fun i hi => ?_⟩
 obtain ⟨g, rfl, _, hc⟩ := h3 (by omega)
 obtain ⟨p0, p1, p2, p3, p4, p5⟩ := boxCells_get l i hi
 refine ⟨g, 0, rfl, ?_⟩
 rw [Nat.zero_add]
 exact ⟨by rw [hc _ (by omega), p0], by rw [hc _ (by omega), p1], by rw [hc _ (by omega), p2], by rw [hc _ (by omega), p3], by rw [hc _ (by omega), p4], by rw [hc _ (by omega), p5]⟩


theorem app_own_at {P : Program} {ops : Array Oper} {rest : List Oper} {o : Oper} {a : Act} {Q : Exit → Act → World → Prop} (hgd : o.guard = none) (s x : Operand) (t : TypeId)
  (ho : o.op = .call { callee := .builtin .append, args := #[s, x], argTypes := #[t, t] })
  (e : TypeId) (z : Value) (size bytes : Nat) (ht : P.underlying t = some (.slice e)) (hi : (P.info? e).map (fun i => (i.zero, i.size, i.bytes)) = some (some z, size, bytes)) (hzs : z.cells.size = size) (hsz : 0 < size)
  (B : World) (v : Value) (n : Nat) (xs : List Value) (w : World) (hs : a.eval s = v) (hown : w.ownsRow B.heap.size e size v n xs)
  (ad : Addr) (m c : Nat) (news : List Value) (hx : a.eval x = .slice (some ad) m c) (hl : news.length = m * size) (hnews : ∀ j u, news[j]? = some u → w.cell? (ad.add j) = some u) (h1 : ∀ u ∈ news, u.oneCell' = true)
  (hroom : (n + m) * bytes ≤ 140737488355328) (hby : 0 < bytes) (hB : Below B.heap.size B w)
  (h : ∀ v' y, (ext B y).ownsRow B.heap.size e size v' (n + m) (xs ++ news) → w.grownBy (ext B y) v.ownBlock → wpList P ops Q rest (a.put o.dst v') (ext B y)) : wpList P ops Q (o :: rest) a w := by
 obtain ⟨i0, hi, hz0, hz1, hz2⟩ := info_parts hi
 have h63 : n + m ≤ maxLen := by
  unfold maxLen
  have := Nat.le_mul_of_pos_right (n + m) hby
  omega
 refine wpList_append_own w hgd s x t ho B.heap.size e i0 z size bytes ht hi hz0 hz1 hz2 hzs hsz v n xs hs hown ad m c news hx hl hnews h1 h63 hroom hB.size ?_
 intro v' w' hown' hgrow _
 obtain ⟨y, rfl⟩ := ext_of (hB.grown hgrow hB.size (own_row hown))
 exact h v' y hown' hgrow

theorem boxCells_length (l : List Bx) : (boxCells l).length = l.length * 6 := by
 unfold boxCells
 induction l with
 | nil => rfl
 | cons a l ih => simp only [List.flatMap_cons, List.length_append, ih, List.length_cons, List.length_nil]; omega
theorem boxCells_one (l : List Bx) : ∀ u ∈ boxCells l, u.oneCell' = true := by
 intro u hu
 unfold boxCells at hu
 obtain ⟨b, _, hb⟩ := List.mem_flatMap.1 hu
 simp only [List.mem_cons, List.not_mem_nil, or_false] at hb
 rcases hb with rfl | rfl | rfl | rfl | rfl | rfl <;> rfl
theorem info_box' : (Tryz.prog.info? 40).map (fun i => (i.zero, i.size, i.bytes)) = some (some (.agg #[.int .i64 0, .int .i64 0, .int .i64 0, .int .i64 0, .int .i64 0, .int .i64 0]), 6, 48) := by kernel_rfl

theorem Boxes.cells {w : World} {ad : Addr} {cap : Nat} {l : List Bx} (h : Boxes w (.slice (some ad) l.length cap) l) : ∀ j u, (boxCells l)[j]? = some u → w.cell? (ad.add j) = some u := by
 intro j u hj
 obtain ⟨a, cap', he, _, _, hc⟩ := h
 cases he
 have hlt : j < (boxCells l).length := (List.getElem?_eq_some_iff.1 hj).1
 rw [boxCells_length] at hlt
 obtain ⟨i, r, hr, rfl⟩ : ∃ i r, r < 6 ∧ j = i * 6 + r := ⟨j / 6, j % 6, Nat.mod_lt _ (by decide), by omega⟩
 have hi : i < l.length := by omega
 obtain ⟨b, off, e, c0, c1, c2, c3, c4, c5⟩ := hc i hi
 cases e
 obtain ⟨d0, d1, d2, d3, d4, d5⟩ := boxCells_get l i hi
 have hadd : ∀ n, (⟨b, off, none⟩ : Addr).add n = ⟨b, off + n, none⟩ := fun n => by
  unfold Addr.add; split
  ·rename_i h0; subst h0; rfl
  ·rfl
 rw [hadd, ← Nat.add_assoc]
 have hr6 : r = 0 ∨ r = 1 ∨ r = 2 ∨ r = 3 ∨ r = 4 ∨ r = 5 := by omega
 rcases hr6 with rfl | rfl | rfl | rfl | rfl | rfl
 ·rw [Nat.add_zero, d0] at hj; rw [Nat.add_zero, c0]; exact hj
 ·rw [d1] at hj; rw [c1]; exact hj
 ·rw [d2] at hj; rw [c2]; exact hj
 ·rw [d3] at hj; rw [c3]; exact hj
 ·rw [d4] at hj; rw [c4]; exact hj
 ·rw [d5] at hj; rw [c5]; exact hj


structure Pt where
 x : Int
 y : Int
 z : Int
deriving DecidableEq
structure Br where
 mark : ByteArray
 size : Int
 count : Int
 code : Int
 dims : List Int
 dv : Value
structure Rn where
 mark : ByteArray
 tx : Int
 ty : Int
 ax : Int
 ay : Int
 az : Int
 sx : Int
 sy : Int
 sz : Int
 count : Int

def Dims (w : World) (v : Value) (l : List Int) : Prop :=
 ∃ a cap, v = .slice a l.length cap ∧ l.length ≤ cap ∧ cap ≤ 9223372036854775807 ∧ ∀ i (h : i < l.length), ∃ b off, a = some ⟨b, off, none⟩ ∧ w.cell? ⟨b, off + i, none⟩ = some (.int .i64 l[i])
theorem Dims.ext {w : World} {v : Value} {l : List Int} (h : Dims w v l) (y : World) : Dims (ext w y) v l := by
 obtain ⟨a, cap, h1, h2, h3, h4⟩ := h
 exact ⟨a, cap, h1, h2, h3, fun i hi => let ⟨b, off, e, hb⟩ := h4 i hi; ⟨b, off, e, cell_ext_some hb y⟩⟩
theorem Dims.below {w w' : World} {v : Value} {l : List Int} (h : Dims w v l) (hb : Below w.heap.size w w') : Dims w' v l := by
 obtain ⟨x, rfl⟩ := ext_of hb
 exact h.ext x
def BrAt (w : World) (b off : Nat) (f : Br) : Prop :=
 w.cell? ⟨b, off, none⟩ = some (.string f.mark) ∧ w.cell? ⟨b, off + 1, none⟩ = some (.int .i64 f.size) ∧ w.cell? ⟨b, off + 2, none⟩ = some (.int .i64 f.count) ∧
 w.cell? ⟨b, off + 3, none⟩ = some (.int .i64 f.code) ∧ w.cell? ⟨b, off + 4, none⟩ = some f.dv
theorem BrAt.ext {w : World} {b off : Nat} {f : Br} (h : BrAt w b off f) (y : World) : BrAt (ext w y) b off f :=
 ⟨cell_ext_some h.1 y, cell_ext_some h.2.1 y, cell_ext_some h.2.2.1 y, cell_ext_some h.2.2.2.1 y, cell_ext_some h.2.2.2.2 y⟩
structure BrOk (w : World) (f : Br) : Prop where
 mark : f.mark.size ≤ 9223372036854775807
 dims : Dims w f.dv f.dims
theorem BrOk.ext {w : World} {f : Br} (h : BrOk w f) (y : World) : BrOk (ext w y) f := ⟨h.mark, h.dims.ext y⟩
theorem BrOk.below {w w' : World} {f : Br} (h : BrOk w f) (hb : Below w.heap.size w w') : BrOk w' f := ⟨h.mark, h.dims.below hb⟩
def Bars (w : World) (v : Value) (l : List Br) : Prop :=
 ∃ a cap, v = .slice a l.length cap ∧ l.length ≤ cap ∧ cap ≤ 9223372036854775807 ∧ ∀ i (h : i < l.length), BrOk w l[i] ∧ ∃ b off, a = some ⟨b, off, none⟩ ∧ BrAt w b (off + i * 5) l[i]
theorem Bars.ext {w : World} {v : Value} {l : List Br} (h : Bars w v l) (y : World) : Bars (ext w y) v l := by
 obtain ⟨a, cap, h1, h2, h3, h4⟩ := h
 exact ⟨a, cap, h1, h2, h3, fun i hi => let ⟨hk, b, off, e, hb⟩ := h4 i hi; ⟨hk.ext y, b, off, e, hb.ext y⟩⟩
theorem Bars.below {w w' : World} {v : Value} {l : List Br} (h : Bars w v l) (hb : Below w.heap.size w w') : Bars w' v l := by
 obtain ⟨x, rfl⟩ := ext_of hb
 exact h.ext x
theorem Bars.shape {w : World} {v : Value} {l : List Br} (h : Bars w v l) : ∃ a cap, v = .slice a l.length cap ∧ l.length ≤ cap ∧ cap ≤ 9223372036854775807 ∧
  ∀ i (h : i < l.length), BrOk w l[i] ∧ ∃ b off, a = some ⟨b, off, none⟩ ∧ BrAt w b (off + i * 5) l[i] := h
def RnAt (w : World) (b off : Nat) (r : Rn) : Prop :=
 w.cell? ⟨b, off, none⟩ = some (.string r.mark) ∧ w.cell? ⟨b, off + 1, none⟩ = some (.int .i64 r.tx) ∧ w.cell? ⟨b, off + 2, none⟩ = some (.int .i64 r.ty) ∧
 w.cell? ⟨b, off + 3, none⟩ = some (.int .i64 r.ax) ∧ w.cell? ⟨b, off + 4, none⟩ = some (.int .i64 r.ay) ∧ w.cell? ⟨b, off + 5, none⟩ = some (.int .i64 r.az) ∧
 w.cell? ⟨b, off + 6, none⟩ = some (.int .i64 r.sx) ∧ w.cell? ⟨b, off + 7, none⟩ = some (.int .i64 r.sy) ∧ w.cell? ⟨b, off + 8, none⟩ = some (.int .i64 r.sz) ∧ w.cell? ⟨b, off + 9, none⟩ = some (.int .i64 r.count)
theorem RnAt.ext {w : World} {b off : Nat} {r : Rn} (h : RnAt w b off r) (y : World) : RnAt (ext w y) b off r := by
 obtain ⟨h0, h1, h2, h3, h4, h5, h6, h7, h8, h9⟩ := h
 exact ⟨cell_ext_some h0 y, cell_ext_some h1 y, cell_ext_some h2 y, cell_ext_some h3 y, cell_ext_some h4 y, cell_ext_some h5 y, cell_ext_some h6 y, cell_ext_some h7 y, cell_ext_some h8 y, cell_ext_some h9 y⟩
def Runs (w : World) (v : Value) (l : List Rn) : Prop :=
 ∃ a cap, v = .slice a l.length cap ∧ l.length ≤ cap ∧ cap ≤ 9223372036854775807 ∧ ∀ i (h : i < l.length), l[i].mark.size ≤ 9223372036854775807 ∧ ∃ b off, a = some ⟨b, off, none⟩ ∧ RnAt w b (off + i * 10) l[i]
theorem Runs.ext {w : World} {v : Value} {l : List Rn} (h : Runs w v l) (y : World) : Runs (ext w y) v l := by
 obtain ⟨a, cap, h1, h2, h3, h4⟩ := h
 exact ⟨a, cap, h1, h2, h3, fun i hi => let ⟨hk, b, off, e, hb⟩ := h4 i hi; ⟨hk, b, off, e, hb.ext y⟩⟩
theorem Runs.below {w w' : World} {v : Value} {l : List Rn} (h : Runs w v l) (hb : Below w.heap.size w w') : Runs w' v l := by
 obtain ⟨x, rfl⟩ := ext_of hb
 exact h.ext x
theorem Runs.shape {w : World} {v : Value} {l : List Rn} (h : Runs w v l) : ∃ a cap, v = .slice a l.length cap ∧ l.length ≤ cap ∧ cap ≤ 9223372036854775807 ∧
  ∀ i (h : i < l.length), l[i].mark.size ≤ 9223372036854775807 ∧ ∃ b off, a = some ⟨b, off, none⟩ ∧ RnAt w b (off + i * 10) l[i] := h

theorem sEq {a b : ByteArray} (h : a = b) : (a.toList == b.toList) = true := by subst h; exact beq_self_eq_true _
theorem sNe {a b : ByteArray} (h : ¬ a = b) : (a.toList == b.toList) = false := by
 rw [beq_eq_false_iff_ne]
 intro e
 rw [ByteArray.toList_eq, ByteArray.toList_eq] at e
 exact h (ByteArray.ext (Array.ext' e))
theorem sEq_iff {a b : ByteArray} : (a.toList == b.toList) = true ↔ a = b := by
 by_cases h : a = b
 ·exact ⟨fun _ => h, sEq⟩
 ·rw [sNe h]; exact ⟨fun e => absurd e Bool.false_ne_true, fun e => absurd e h⟩

def findI (l : List Br) (m : ByteArray) : Int := ((l.findIdx? fun b => b.mark.toList == m.toList).map (fun i : Nat => (i : Int))).getD (-1)
theorem findI_none {l : List Br} {m : ByteArray} (h : ∀ j (h : j < l.length), (l[j].mark.toList == m.toList) = false) : findI l m = -1 := by
 unfold findI
 rw [List.findIdx?_eq_none_iff.2 fun z hz => by obtain ⟨j, hj, rfl⟩ := List.getElem_of_mem hz; exact h j hj]; rfl
theorem findI_some {l : List Br} {m : ByteArray} {k : Nat} (hk : k < l.length) (hp : (l[k].mark.toList == m.toList) = true) (h : ∀ j (hj : j < k), (l[j].mark.toList == m.toList) = false) : findI l m = k := by
 unfold findI
 rw [List.findIdx?_eq_some_iff_getElem.2 ⟨hk, hp, fun j hj => by simpa using h j hj⟩]; rfl
theorem findI_cases (l : List Br) (m : ByteArray) : (findI l m = -1 ∧ ∀ j (h : j < l.length), (l[j].mark.toList == m.toList) = false) ∨ ∃ (k : Nat) (hk : k < l.length), findI l m = k ∧ (l[k].mark.toList == m.toList) = true ∧ ∀ j (hj : j < k), (l[j].mark.toList == m.toList) = false := by
 cases h : l.findIdx? fun b => b.mark.toList == m.toList with
 | none =>
   have hn : ∀ j (h : j < l.length), (l[j].mark.toList == m.toList) = false := fun j hj => List.findIdx?_eq_none_iff.1 h _ (List.getElem_mem hj)
   exact .inl ⟨findI_none hn, hn⟩
 | some k =>
   obtain ⟨hk, hp, hno⟩ := List.findIdx?_eq_some_iff_getElem.1 h
   have hn : ∀ j (hj : j < k), (l[j].mark.toList == m.toList) = false := fun j hj => by simpa using hno j hj
   exact .inr ⟨k, hk, findI_some hk hp hn, hp, hn⟩

set_option maxRecDepth 100000 in
set_option maxHeartbeats 1000000 in
theorem indexBar_c (F : Nat) (hE : Enters F) (caps : Array Value) (m : ByteArray) (l : List Br) (v : Value) (w : World) (hl : Bars w v l)
  (hf : ∀ b x, b ∈ l → Calls Tryz.prog F (#[(.agg #[.string b.mark, .int .i64 b.size, .int .i64 b.count, .int .i64 b.code, b.dv])] ++ caps) (ext w x) (Ret (ext w x) (.bool (b.mark.toList == m.toList)))) :
  Calls Tryz.prog 66 #[v, .func (.func F) #[] caps] w (Ret w (.int .i64 (findI l m))) := by
 obtain ⟨a, cap, rfl, h2, h3, h4⟩ := hl
 by_cases hnil : l = []
 ·subst hnil
  clear hf hE h4
  go_enter Tryz.func66, Tryz.ntmps66
  go_wp2
  refine wp_loop_rounds 1 ?_
  rw [rounds_succ]
  go_wp2
  go_ret
  exact Ret.of gro
 ·have HF := hd0 hf
  clear hf
  clear hnil
  have hn : l.length ≤ 9223372036854775807 := by omega
  have H4 := hd0 h4
  clear h4
  go_enter Tryz.func66, Tryz.ntmps66
  go_wp2
  go_loopw [8, 5] (fun i j wr => ∃ k : Nat, k ≤ l.length ∧ i = .int .i64 k ∧ (∃ x, wr = ext w x) ∧ ∀ j (h : j < k) (h' : j < l.length), (l[j].mark.toList == m.toList) = false) (fun i j _ => l.length - (intOf i).toNat)
  case atStart => exact ⟨0, by omega, rfl, ext_of (Below.refl _ _), fun j h => by omega⟩
  case round =>
   obtain ⟨k, hk, rfl, ⟨x, rfl⟩, hno⟩ := hrel
   have HNO := hd0 hno
   clear hno
   by_cases hlt : k < l.length
   ·obtain ⟨b, off, rfl, hb⟩ := (H4.out k hlt).2
    obtain ⟨c0, c1, c2, c3, c4⟩ := hb.ext x
    have hcall := HF.out l[k] x (List.getElem_mem hlt)
    have q1 : (0 : Int) ≤ (k : Int) := by omega
    have q2 : (k : Int) < (l.length : Int) := by omega
    obtain ⟨f, hf⟩ : ∃ f, f = l[k] := ⟨_, rfl⟩
    rw [← hf] at c0 c1 c2 c3 c4 hcall
    have HK := hd0 hf
    have HC := hd0 hcall
    clear hf hb hcall
    go_wp2_with fail
    rw [show ∀ (a : Array Value) (w : World), (callFunc F a).run Tryz.prog w = .ok (.enter F a) w from hE, Oper.upon_enter]
    refine HC.out.mono ?_
    rintro e w' ⟨rfl, y, rfl⟩
    clear c0 c1 c2 c3 c4
    cases hp : (f.mark.toList == m.toList)
    ·have HP := hd0 (show (l[k].mark.toList == m.toList) = false by rw [← HK.out]; exact hp)
     clear hp
     go_wp2
     go_roundw
     case rel => exact ⟨k + 1, by omega, by go_num, ⟨_, ext_ext _ _ _⟩, fun j h1 h2 => by
      rcases Nat.lt_or_ge j k with h | h
      ·exact HNO.out j h h2
      ·obtain rfl : j = k := by omega
       exact HP.out⟩
     case measure => simp [intOf]; omega
    ·have he : findI l m = k := findI_some hlt (by rw [← HK.out]; exact hp) (fun j hj => HNO.out j hj (by omega))
     have HE := hd0 he
     clear he hp
     go_wp2
     go_ret
     rw [HE.out]
     exact Ret.of gro
   ·have he : findI l m = -1 := findI_none fun j hj => HNO.out j (by omega) hj
    have HE := hd0 he
    clear he
    go_wp2
    go_ret
    rw [HE.out]
    exact Ret.of gro


def Blk (w : World) (k : Nat) (cs : Array Value) (t : TypeId) : Prop := w.heap[k]? = some (.cells cs t (0, 0))
theorem Blk.lt {w : World} {k : Nat} {cs : Array Value} {t : TypeId} (h : Blk w k cs t) : k < w.heap.size := lt_of_block h
theorem Blk.cell {w : World} {k : Nat} {cs : Array Value} {t : TypeId} (h : Blk w k cs t) (i : Nat) : w.cell? ⟨k, i, none⟩ = cs[i]? := by
 unfold Blk at h; simp [World.cell?, h]
theorem Blk.frozen {w : World} {k : Nat} {cs : Array Value} {t : TypeId} (h : Blk w k cs t) (i : Nat) : w.frozen? ⟨k, i, none⟩ = false := by
 unfold Blk at h; simp [World.frozen?, h]
theorem Blk.of_block {w w' : World} {k : Nat} {cs : Array Value} {t : TypeId} (h : Blk w k cs t) (e : w'.heap[k]? = w.heap[k]?) : Blk w' k cs t := e.trans h
theorem Blk.alloc {w : World} {k : Nat} {cs : Array Value} {t : TypeId} (h : Blk w k cs t) (o : Obj) : Blk (w.alloc o) k cs t := h.of_block (Below.heap_alloc _ _ _ h.lt)
theorem Blk.new (w : World) (cs : Array Value) (t : TypeId) : Blk (w.alloc (.cells cs t)) w.heap.size cs t := heap_alloc_new w _
theorem Blk.new' {w : World} {k : Nat} (hk : k = w.heap.size) (cs : Array Value) (t : TypeId) : Blk (w.alloc (.cells cs t)) k cs t := by subst hk; exact Blk.new _ _ _
theorem Blk.ext {w : World} {k : Nat} {cs : Array Value} {t : TypeId} (h : Blk w k cs t) (x : World) : Blk (ext w x) k cs t := h.of_block ((below_ext w x).block k h.lt)
theorem Blk.below {w w' : World} {k : Nat} {cs : Array Value} {t : TypeId} (h : Blk w k cs t) (hb : Below w.heap.size w w') : Blk w' k cs t := h.of_block (hb.block k h.lt)
theorem Blk.other {w : World} {k : Nat} {cs : Array Value} {t : TypeId} (h : Blk w k cs t) {a : Addr} (hne : k ≠ a.block) (u : Value) : Blk (w.setCell a u) k cs t := h.of_block (Below.heap_setCell w a u k hne)
theorem Blk.set {w : World} {k : Nat} {cs : Array Value} {t : TypeId} (h : Blk w k cs t) (i : Nat) (u : Value) : Blk (w.setCell ⟨k, i, none⟩ u) k (cs.setIfInBounds i u) t := by
 have hlt := lt_of_block h
 have h' : w.heap[k] = .cells cs t (0, 0) := by unfold Blk at h; simpa [Array.getElem?_eq_getElem hlt] using h
 show (w.heap.modify k _)[k]? = _
 rw [Array.getElem?_eq_getElem (by simpa using hlt), Array.getElem_modify_self, h']; rfl
theorem Blk.grown {w w' : World} {k : Nat} {cs : Array Value} {t : TypeId} (h : Blk w k cs t) {row : Option Nat} (hg : w.grownBy w' row) (hne : some k ≠ row) : Blk w' k cs t := h.of_block (hg.block k h.lt hne)
theorem Blk.ne_row {w : World} {k : Nat} {cs : Array Value} {t : TypeId} (h : Blk w k cs t) {base s n : Nat} {e : TypeId} {v : Value} {xs : List Value} (ho : w.ownsRow base e s v n xs) (he : t ≠ e) : some k ≠ v.ownBlock := by
 rcases ho.2 with ⟨rfl, _⟩ | ⟨g, cap, cur, rfl, _, g1, _⟩
 ·simp [Value.ownBlock]
 ·intro q
  simp only [Value.ownBlock, Option.some.injEq] at q
  subst q
  unfold Blk at h
  rw [g1] at h
  cases h
  exact he rfl
theorem own_base_ne {w : World} {k base s n : Nat} {e : TypeId} {v : Value} {xs : List Value} (ho : w.ownsRow base e s v n xs) (h : k < base) : some k ≠ v.ownBlock := fun q => by have := (ho.lt k q.symm).1; omega

theorem app_own_b {P : Program} {ops : Array Oper} {rest : List Oper} {o : Oper} {a : Act} {Q : Exit → Act → World → Prop} (hgd : o.guard = none) (s x : Operand) (t : TypeId)
  (ho : o.op = .call { callee := .builtin .append, args := #[s, x], argTypes := #[t, t] })
  (e : TypeId) (z : Value) (size bytes : Nat) (ht : P.underlying t = some (.slice e)) (hi : (P.info? e).map (fun i => (i.zero, i.size, i.bytes)) = some (some z, size, bytes)) (hzs : z.cells.size = size) (hsz : 0 < size)
  (base : Nat) (v : Value) (n : Nat) (xs : List Value) (w : World) (hs : a.eval s = v) (hown : w.ownsRow base e size v n xs)
  (g m c : Nat) (news : List Value) (hx : a.eval x = .slice (some ⟨g, 0, none⟩) m c) (hl : news.length = m * size) (hnews : ∀ j u, news[j]? = some u → w.cell? ((⟨g, 0, none⟩ : Addr).add j) = some u) (h1 : ∀ u ∈ news, u.oneCell' = true)
  (hroom : (n + m) * bytes ≤ 140737488355328) (hby : 0 < bytes) (hB : base ≤ w.heap.size)
  (h : ∀ v' w', w'.ownsRow base e size v' (n + m) (xs ++ news) → w.grownBy w' v.ownBlock → wpList P ops Q rest (a.put o.dst v') w') : wpList P ops Q (o :: rest) a w := by
 obtain ⟨i0, hi, hz0, hz1, hz2⟩ := info_parts hi
 have h63 : n + m ≤ maxLen := by
  unfold maxLen
  have := Nat.le_mul_of_pos_right (n + m) hby
  omega
 refine wpList_append_own w hgd s x t ho base e i0 z size bytes ht hi hz0 hz1 hz2 hzs hsz v n xs hs hown ⟨g, 0, none⟩ m c news hx hl hnews h1 h63 hroom hB ?_
 intro v' w' hown' hgrow _
 exact h v' w' hown' hgrow

def PtAt (w : World) (b off : Nat) (p : Pt) : Prop :=
 w.cell? ⟨b, off, none⟩ = some (.int .i64 p.x) ∧ w.cell? ⟨b, off + 1, none⟩ = some (.int .i64 p.y) ∧ w.cell? ⟨b, off + 2, none⟩ = some (.int .i64 p.z)
theorem PtAt.ext {w : World} {b off : Nat} {p : Pt} (h : PtAt w b off p) (y : World) : PtAt (ext w y) b off p := ⟨cell_ext_some h.1 y, cell_ext_some h.2.1 y, cell_ext_some h.2.2 y⟩
def Pts (w : World) (v : Value) (l : List Pt) : Prop :=
 ∃ a cap, v = .slice a l.length cap ∧ l.length ≤ cap ∧ cap ≤ 9223372036854775807 ∧ ∀ i (h : i < l.length), ∃ b off, a = some ⟨b, off, none⟩ ∧ PtAt w b (off + i * 3) l[i]
theorem Pts.ext {w : World} {v : Value} {l : List Pt} (h : Pts w v l) (y : World) : Pts (ext w y) v l := by
 obtain ⟨a, cap, h1, h2, h3, h4⟩ := h
 exact ⟨a, cap, h1, h2, h3, fun i hi => let ⟨b, off, e, hb⟩ := h4 i hi; ⟨b, off, e, hb.ext y⟩⟩
theorem Pts.below {w w' : World} {v : Value} {l : List Pt} (h : Pts w v l) (hb : Below w.heap.size w w') : Pts w' v l := by
 obtain ⟨x, rfl⟩ := ext_of hb
 exact h.ext x
theorem Pts.shape {w : World} {v : Value} {l : List Pt} (h : Pts w v l) : ∃ a cap, v = .slice a l.length cap ∧ l.length ≤ cap ∧ cap ≤ 9223372036854775807 ∧ ∀ i (h : i < l.length), ∃ b off, a = some ⟨b, off, none⟩ ∧ PtAt w b (off + i * 3) l[i] := h

def ptCells (l : List Pt) : List Value := l.flatMap fun p => [.int .i64 p.x, .int .i64 p.y, .int .i64 p.z]
theorem ptCells_append (a b : List Pt) : ptCells (a ++ b) = ptCells a ++ ptCells b := by unfold ptCells; rw [List.flatMap_append]
theorem ptCells_one (l : List Pt) : ∀ u ∈ ptCells l, u.oneCell' = true := by
 intro u hu
 unfold ptCells at hu
 obtain ⟨b, _, hb⟩ := List.mem_flatMap.1 hu
 simp only [List.mem_cons, List.not_mem_nil, or_false] at hb
 rcases hb with rfl | rfl | rfl <;> rfl
theorem ptCells_get (l : List Pt) (i : Nat) (h : i < l.length) : (ptCells l)[i * 3]? = some (.int .i64 l[i].x) ∧ (ptCells l)[i * 3 + 1]? = some (.int .i64 l[i].y) ∧ (ptCells l)[i * 3 + 2]? = some (.int .i64 l[i].z) := by
 induction l generalizing i with
 | nil => simp at h
 | cons a l ih =>
   cases i with
   | zero => simp [ptCells]
   | succ i =>
     have := ih i (by simpa using h)
     have hc : ∀ k, (ptCells (a :: l))[(i + 1) * 3 + k]? = (ptCells l)[i * 3 + k]? := fun k => by
      rw [show (i + 1) * 3 + k = (i * 3 + k) + 1 + 1 + 1 by omega]
      simp only [ptCells, List.flatMap_cons, List.cons_append, List.nil_append, List.getElem?_cons_succ]
     have h0 := hc 0
     rw [Nat.add_zero, Nat.add_zero] at h0
     rw [h0, hc, hc]
     exact this
theorem Pts.of_own {w : World} {base : Nat} {e : TypeId} {v : Value} {l : List Pt} (h : w.ownsRow base e 3 v l.length (ptCells l)) : Pts w v l := by
 obtain ⟨a, cap, rfl, h1, h2, h3⟩ := own_shape h
 unfold maxLen at h2
 refine ⟨a, cap, rfl, h1, by omega, fun i hi => ?_⟩
 obtain ⟨g, rfl, _, hc⟩ := h3 (by omega)
 obtain ⟨p0, p1, p2⟩ := ptCells_get l i hi
 refine ⟨g, 0, rfl, ?_⟩
 rw [Nat.zero_add]
 exact ⟨by rw [hc _ (by omega), p0], by rw [hc _ (by omega), p1], by rw [hc _ (by omega), p2]⟩
theorem info_pt : (Tryz.prog.info? 38).map (fun i => (i.zero, i.size, i.bytes)) = some (some (.agg #[.int .i64 0, .int .i64 0, .int .i64 0]), 3, 24) := by kernel_rfl
theorem own_pts {W : World} {M : Nat} {e : TypeId} {v : Value} {n : Nat} {l : List Pt} {p : Pt} (h : W.ownsRow M e 3 v (n + 1) (ptCells l ++ ptCells [p])) (hn : n = l.length) : W.ownsRow M e 3 v (l ++ [p]).length (ptCells (l ++ [p])) := by
 subst hn
 rw [ptCells_append, List.length_append]; exact h



def halfI (d : Int) : Int := (d + 1) / 2
def Ints (w : World) (v : Value) (l : List Int) : Prop :=
 ∃ b off cap, v = .slice (some ⟨b, off, none⟩) l.length cap ∧ l.length ≤ cap ∧ cap ≤ 9223372036854775807 ∧ ∀ i (h : i < l.length), w.cell? ⟨b, off + i, none⟩ = some (.int .i64 l[i])
def RetInts (w : World) (l : List Int) (e : Ending) (w' : World) : Prop := ∃ v, e = .returned v ∧ Ints w' v l ∧ ∃ x, w' = ext w x
theorem Ints.ext {w : World} {v : Value} {l : List Int} (h : Ints w v l) (y : World) : Ints (ext w y) v l := by
 obtain ⟨b, off, cap, h1, h2, h3, h4⟩ := h
 exact ⟨b, off, cap, h1, h2, h3, fun i hi => cell_ext_some (h4 i hi) y⟩

set_option maxRecDepth 100000 in
set_option maxHeartbeats 400000 in
theorem indexInt_c (l : List Int) (d : Int) (v : Value) (w : World) (hl : Ints w v l) :
  Calls Tryz.prog 262 #[v, .int .i64 d] w (Ret w (.int .i64 (((l.findIdx? fun a => d == a).map (fun i : Nat => (i : Int))).getD (-1)))) := by
 obtain ⟨b, off, cap, rfl, h2, h3, h4⟩ := hl
 have hn : l.length ≤ 9223372036854775807 := by omega
 have H4 := hd0 h4
 clear h4
 go_enter Tryz.func262, Tryz.ntmps262
 go_wp2
 go_loopw [8, 5] (fun i j wr => ∃ k : Nat, k ≤ l.length ∧ i = .int .i64 k ∧ (∃ x, wr = ext w x) ∧ ∀ j (h : j < k) (h' : j < l.length), (d == l[j]) = false) (fun i j _ => l.length - (intOf i).toNat)
 case atStart => exact ⟨0, by omega, rfl, ext_of (Below.refl _ _), fun j h => by omega⟩
 case round =>
  obtain ⟨k, hk, rfl, ⟨x, rfl⟩, hno⟩ := hrel
  have HNO := hd0 hno
  clear hno
  by_cases hlt : k < l.length
  ·have hc := H4.out k hlt
   have q1 : (0 : Int) ≤ (k : Int) := by omega
   have q2 : (k : Int) < (l.length : Int) := by omega
   obtain ⟨a, ha⟩ : ∃ a, a = l[k] := ⟨_, rfl⟩
   rw [← ha] at hc
   have HK := hd0 ha
   clear ha
   cases hp : (d == a)
   ·have HP := hd0 (show (d == l[k]) = false by rw [← HK.out]; exact hp)
    go_wp2
    go_roundw
    case rel => exact ⟨k + 1, by omega, by go_num, ext_of gro, fun j h1 h2 => by
     rcases Nat.lt_or_ge j k with h | h
     ·exact HNO.out j h h2
     ·obtain rfl : j = k := by omega
      exact HP.out⟩
    case measure => simp [intOf]; omega
   ·have he : (l.findIdx? fun a => d == a) = some k := by
     rw [List.findIdx?_eq_some_iff_getElem]
     exact ⟨hlt, by rw [← HK.out]; exact hp, fun j hj => by simpa using HNO.out j hj (by omega)⟩
    have HE := hd0 he
    clear he
    go_wp2
    go_ret
    rw [HE.out]
    exact Ret.of gro
  ·have he : (l.findIdx? fun a => d == a) = none := by
    rw [List.findIdx?_eq_none_iff]
    intro z hz
    obtain ⟨j, hj, rfl⟩ := List.getElem_of_mem hz
    exact HNO.out j (by omega) hj
   have HE := hd0 he
   clear he
   go_wp2
   go_ret
   rw [HE.out]
   exact Ret.of gro
theorem find_any_int {p : Int → Bool} {l : List Int} : (decide (0 ≤ (((l.findIdx? p).map (fun i : Nat => (i : Int))).getD (-1)))) = l.any p := by
 cases h : l.findIdx? p with
 | none =>
   have := List.findIdx?_eq_none_iff.1 h
   simp only [Option.map_none, Option.getD_none]
   rw [show (decide ((0 : Int) ≤ -1)) = false from rfl]
   symm; rw [List.any_eq_false]; intro x hx; simp [this x hx]
 | some k =>
   obtain ⟨hk, hp, _⟩ := List.findIdx?_eq_some_iff_getElem.1 h
   simp only [Option.map_some, Option.getD_some]
   rw [show (decide ((0 : Int) ≤ (k : Int))) = true by simp]
   symm; rw [List.any_eq_true]; exact ⟨_, List.getElem_mem hk, hp⟩
theorem containsInt_c (l : List Int) (d : Int) (v : Value) (w : World) (hl : Ints w v l) :
  Calls Tryz.prog 255 #[v, .int .i64 d] w (Ret w (.bool (l.any fun a => d == a))) := by
 have HI := hd0 (fun w hl => indexInt_c l d v w hl)
 have HL := hd0 hl
 clear hl
 have HA := hd0 (find_any_int (p := fun a => d == a) (l := l))
 generalize (l.any fun a => d == a) = r at *
 generalize (((l.findIdx? fun a => d == a).map (fun i : Nat => (i : Int))).getD (-1)) = k at *
 have hk : decide (0 ≤ k) = r := HA.out
 clear HA
 go_enter Tryz.func255, Tryz.ntmps255
 go_wp2_with fail
 go_at_call 262; refine (HI.out _ HL.out).mono ?_; rintro e w' ⟨rfl, x1, rfl⟩
 go_wp2
 go_ret
 exact Ret.of gro

def sizesL : List Int := [6, 8, 10, 12, 16, 20, 25, 32, 40]
def sizeB (d : Int) : Bool := sizesL.any fun a => d == a
theorem size_iff {d : Int} : sizeB d = true ↔ d = 6 ∨ d = 8 ∨ d = 10 ∨ d = 12 ∨ d = 16 ∨ d = 20 ∨ d = 25 ∨ d = 32 ∨ d = 40 := by
 unfold sizeB sizesL; simp
theorem sizes_c (w : World) : Calls Tryz.prog 256 #[] w (RetInts w sizesL) := by
 go_enter Tryz.func256, Tryz.ntmps256
 go_wp2
 refine bodyPost_ret (v := .slice (some ⟨w.heap.size, 0, none⟩) 9 9) (by simp [results, Tryz.results256, go_sem]) rfl ?_
 refine ⟨_, rfl, ⟨w.heap.size, 0, 9, rfl, by decide, by decide, ?_⟩, ext_of gro⟩
 intro i hi
 have hi9 : i < 9 := hi
 rcases (show i = 0 ∨ i = 1 ∨ i = 2 ∨ i = 3 ∨ i = 4 ∨ i = 5 ∨ i = 6 ∨ i = 7 ∨ i = 8 by omega) with rfl | rfl | rfl | rfl | rfl | rfl | rfl | rfl | rfl
 all_goals simp [go_sem, sizesL]

theorem size_v (d : Int) (r : Bool) (h : sizeB d = r) (w : World) : Calls Tryz.prog 234 #[.int .i64 d] w (Ret w (.bool r)) := by
 have HS := hd0 (fun w => sizes_c w)
 have HC := hd0 (fun v w hl => containsInt_c sizesL d v w hl)
 rw [show (sizesL.any fun a => d == a) = r from h] at HC
 clear h
 go_enter Tryz.func234, Tryz.ntmps234
 go_wp2_with fail
 go_at_call 256; refine Calls.mono (HS.out _) ?_; rintro e w' ⟨v1, rfl, hI, x1, rfl⟩
 have HI := hd0 hI
 clear hI
 go_wp2_with fail
 go_at_call 255; refine (HC.out _ _ HI.out).mono ?_; rintro e w' ⟨rfl, x2, rfl⟩
 go_wp2
 go_ret
 exact Ret.of gro

theorem round1_c (d : Int) (hd : 0 ≤ d ∧ d ≤ 1000) (g : Nat) (w : World) (hg : w.cell? ⟨g, 0, none⟩ = some (.int .i64 d)) : Calls Tryz.prog 263 #[.pointer (some ⟨g, 0, none⟩)] w (Ret w (.int .i64 ((d + 1) / 2))) := by
 have e : (d + 1).tdiv 2 = (d + 1) / 2 := Int.tdiv_eq_ediv_of_nonneg (by omega)
 go_enter Tryz.func263, Tryz.ntmps263
 go_wp2
 go_ret
 exact Ret.of gro
theorem enters_round1 : Enters 263 := enters_of Tryz.func263 (by decide) (by simp [Tryz.f263])

theorem sized_no (d : Int) (h : sizeB d = false) (F : Nat) (caps : Array Value) (w : World) :
  Calls Tryz.prog 197 #[.int .i64 d, .func (.func F) #[] caps] w (Ret w (.tuple #[.int .i64 0, .int .i64 1])) := by
 have HS := hd0 (fun w => size_v d false h w)
 clear h
 go_enter Tryz.func197, Tryz.ntmps197
 go_wp2_with fail
 go_at_call 234; refine (HS.out _).mono ?_; rintro e w' ⟨rfl, x1, rfl⟩
 go_wp2
 go_ret2
 exact Ret.of gro
theorem sized_ok (d n : Int) (h : sizeB d = true) (F : Nat) (hE : Enters F) (caps : Array Value) (w : World) (hf : ∀ x, Calls Tryz.prog F caps (ext w x) (Ret (ext w x) (.int .i64 n))) :
  Calls Tryz.prog 197 #[.int .i64 d, .func (.func F) #[] caps] w (Ret w (.tuple #[.int .i64 n, .int .i64 0])) := by
 have HS := hd0 (fun w => size_v d true h w)
 have HF := hd0 hf
 clear h hf
 go_enter Tryz.func197, Tryz.ntmps197
 go_wp2_with fail
 go_at_call 234; refine (HS.out _).mono ?_; rintro e w' ⟨rfl, x1, rfl⟩
 go_wp2_with fail
 rw [show ∀ (a : Array Value) (w : World), (callFunc F a).run Tryz.prog w = .ok (.enter F a) w from hE, Oper.upon_enter]
 refine (HF.out _).mono ?_
 rintro e w' ⟨rfl, y, rfl⟩
 go_wp2
 go_ret2
 exact Ret.of gro

def roundR (d : Int) : Int × Int := if sizeB d = true then ((d + 1) / 2, 0) else (0, 1)
theorem Round_c (d : Int) (w : World) : Calls Tryz.prog 257 #[.int .i64 d] w (Ret w (.tuple #[.int .i64 (roundR d).1, .int .i64 (roundR d).2])) := by
 unfold roundR
 cases h : sizeB d
 ·have HN := hd0 (fun F caps w => sized_no d h F caps w)
  clear h
  simp only [Bool.false_eq_true, if_false]
  go_enter Tryz.func257, Tryz.ntmps257
  go_wp2_with fail
  go_at_call 197; refine (HN.out _ _ _).mono ?_; rintro e w' ⟨rfl, x1, rfl⟩
  go_wp2
  go_ret2
  exact Ret.of gro
 ·have hd := size_iff.1 h
  have HN := hd0 (fun caps w hf => sized_ok d ((d + 1) / 2) h _ enters_round1 caps w hf)
  have HR := hd0 (fun g w hg => round1_c d (by omega) g w hg)
  clear h hd
  simp only [if_true]
  go_enter Tryz.func257, Tryz.ntmps257
  go_wp2_with fail
  go_at_call 197; refine (HN.out _ _ (fun x => HR.out _ _ (by simp [go_sem]))).mono ?_; rintro e w' ⟨rfl, x1, rfl⟩
  go_wp2
  go_ret2
  exact Ret.of gro


theorem refSizes_c (w : World) : Calls Tryz.prog 244 #[] w (RetInts w sizesL) := by
 go_enter Tryz.func244, Tryz.ntmps244
 go_wp2
 refine bodyPost_ret (v := .slice (some ⟨w.heap.size, 0, none⟩) 9 9) (by simp [results, Tryz.results244, go_sem]) rfl ?_
 refine ⟨_, rfl, ⟨w.heap.size, 0, 9, rfl, by decide, by decide, ?_⟩, ext_of gro⟩
 intro i hi
 have hi9 : i < 9 := hi
 rcases (show i = 0 ∨ i = 1 ∨ i = 2 ∨ i = 3 ∨ i = 4 ∨ i = 5 ∨ i = 6 ∨ i = 7 ∨ i = 8 by omega) with rfl | rfl | rfl | rfl | rfl | rfl | rfl | rfl | rfl
 all_goals simp [go_sem, sizesL]

set_option maxRecDepth 100000 in
set_option maxHeartbeats 1000000 in
theorem refSize_v (d : Int) (r : Bool) (h : sizeB d = r) (w : World) : Calls Tryz.prog 205 #[.int .i64 d] w (Ret w (.bool r)) := by
 have HS := hd0 (fun w => refSizes_c w)
 have HR := hd0 h
 clear h
 go_enter Tryz.func205, Tryz.ntmps205
 go_wp2_with fail
 go_at_call 244; refine Calls.mono (HS.out _) ?_; rintro e w' ⟨v1, rfl, ⟨b, off, cap, rfl, h2, h3, h4⟩, x1, rfl⟩
 have H4 := hd0 h4
 clear h4
 have hlen : sizesL.length = 9 := rfl
 rw [hlen] at h2 ⊢
 go_wp2_with fail
 go_loopw [4] (fun i wr => ∃ k : Nat, k ≤ 9 ∧ i = .int .i64 k ∧ (∃ x, wr = ext (ext w x1) x) ∧ ∀ j (h : j < k) (h' : j < sizesL.length), (d == sizesL[j]) = false) (fun i _ => 9 - (intOf i).toNat)
 case atStart => exact ⟨0, by omega, rfl, ext_of (Below.refl _ _), fun j h => by omega⟩
 case round =>
  obtain ⟨k, hk, rfl, ⟨x, rfl⟩, hno⟩ := hrel
  have HNO := hd0 hno
  clear hno
  by_cases hlt : k < 9
  ·have hc := cell_ext_some (H4.out k hlt) x
   have q1 : (0 : Int) ≤ (k : Int) := by omega
   have q2 : (k : Int) < 9 := by omega
   obtain ⟨a, ha⟩ : ∃ a, a = sizesL[k]'hlt := ⟨_, rfl⟩
   rw [← ha] at hc
   have HK := hd0 ha
   clear ha
   cases hp : (a == d)
   ·have HP := hd0 (show (d == sizesL[k]'hlt) = false by rw [← HK.out]; rw [beq_eq_false_iff_ne] at hp ⊢; exact fun e => hp e.symm)
    go_wp2
    go_roundw
    case rel => exact ⟨k + 1, by omega, by go_num, ext_of gro, fun j h1 h2 => by
     rcases Nat.lt_or_ge j k with h | h
     ·exact HNO.out j h h2
     ·obtain rfl : j = k := by omega
      exact HP.out⟩
    case measure => simp [intOf]; omega
   ·have he : sizeB d = true := by
     unfold sizeB
     rw [List.any_eq_true]
     exact ⟨_, List.getElem_mem hlt, by rw [← HK.out]; exact beq_iff_eq.2 (beq_iff_eq.1 hp).symm⟩
    obtain rfl : true = r := by rw [← HR.out, he]
    go_wp2
    go_ret
    exact Ret.of gro
  ·have he : sizeB d = false := by
    unfold sizeB
    rw [List.any_eq_false]
    intro z hz
    obtain ⟨j, hj, rfl⟩ := List.getElem_of_mem hz
    have := HNO.out j (by have : j < 9 := hj; omega) hj
    rw [this]; exact Bool.false_ne_true
   obtain rfl : false = r := by rw [← HR.out, he]
   go_wp2
   go_ret
   exact Ret.of gro

end Go.Proofs.YtkjljneehgmmaaaGreat


