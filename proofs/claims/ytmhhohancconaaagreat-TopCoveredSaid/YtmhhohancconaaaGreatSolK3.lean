/- SolG, SolH, SolI, SolJ in one text. -/
import Derived.Test.YtmhhohancconaaaGreatSolF
import Derived.RangeFuncBox
namespace Go.Proofs.YtmhhohancconaaaGreat
open Go.RowKit
set_option maxRecDepth 20000

theorem app_own_w {P : Program} {ops : Array Oper} {rest : List Oper} {o : Oper} {a : Act} {Q : Exit → Act → World → Prop} (hgd : o.guard = none) (s x : Operand) (t : TypeId)
    (ho : o.op = .call { callee := .builtin .append, args := #[s, x], argTypes := #[t, t] })
    (e : TypeId) (z : Value) (size bytes : Nat) (ht : P.underlying t = some (.slice e)) (hi : (P.info? e).map (fun i => (i.zero, i.size, i.bytes)) = some (some z, size, bytes)) (hzs : z.cells.size = size) (hsz : 0 < size)
    (base : Nat) (v : Value) (n : Nat) (xs : List Value) (w : World) (hs : a.eval s = v) (hown : w.ownsRow base e size v n xs)
    (g m c : Nat) (news : List Value) (hx : a.eval x = .slice (some ⟨g, 0, none⟩) m c) (hl : news.length = m * size) (hnews : ∀ j u, news[j]? = some u → w.cell? ((⟨g, 0, none⟩ : Addr).add j) = some u) (h1 : ∀ u ∈ news, u.oneCell' = true)
    (hroom : (n + m) * bytes ≤ 140737488355328) (hby : 0 < bytes) (hB : base ≤ w.heap.size)
    (h : ∀ v' w', w'.ownsRow base e size v' (n + m) (xs ++ news) → w.grownBy w' v.ownBlock → wpList P ops Q rest (a.put o.dst v') w') : wpList P ops Q (o :: rest) a w := by
  obtain ⟨i0, hi, hz0, hz1, hz2⟩ := info_parts hi
  have h63 : n + m ≤ maxLen := by
    unfold maxLen
    have := Nat.le_mul_of_pos_right (n + m) hby
    omega
  refine wpList_append_own w hgd s x t ho base e i0 z size bytes ht hi hz0 hz1 hz2 hzs hsz v n xs hs hown ⟨g, 0, none⟩ m c news hx hl hnews h1 h63 hroom hB ?_
  intro v' w' hown' hgrow _
  exact h v' w' hown' hgrow

theorem own_cells {W : World} {M : Nat} {e : TypeId} {v : Value} {n : Nat} {l : List Bx} {b : Bx} (h : W.ownsRow M e 6 v (n + 1) (boxCells l ++ boxCells [b])) (hn : n = l.length) : W.ownsRow M e 6 v (l ++ [b]).length (boxCells (l ++ [b])) := by
  subst hn
  rw [boxCells_append, List.length_append]; exact h

theorem grow_cell2 {w w1 : World} {o1 o2 : Obj} {g : Nat} {v : Value} {row : Option Nat} (hc : w.cell? ⟨g, 0, none⟩ = some v) (hf : w.frozen? ⟨g, 0, none⟩ = false) (hg : ((w.alloc o1).alloc o2).grownBy w1 row) (hne : some g ≠ row) :
    w1.cell? ⟨g, 0, none⟩ = some v ∧ w1.frozen? ⟨g, 0, none⟩ = false := by
  have h1 : w.heap.size ≤ ((w.alloc o1).alloc o2).heap.size := by simp only [World.size_alloc]; omega
  have hlt : g < w.heap.size := World.block_lt_of_cell? w _ hc
  refine ⟨hg.cell (a := ⟨g, 0, none⟩) (cell_alloc_keep (cell_alloc_keep hc _) _) hne, (World.frozen?_of_block (a := ⟨g, 0, none⟩) (hg.block g (by omega) hne)).trans ?_⟩
  rw [World.frozen?_alloc_old _ _ _ (by simp only [World.size_alloc]; show g ≠ _; omega), World.frozen?_alloc_old _ _ _ (by show g ≠ _; omega)]; exact hf

theorem keeps_step {w w1 : World} {o1 o2 : Obj} {n₀ g M : Nat} {row : Option Nat} (hg : ((w.alloc o1).alloc o2).grownBy w1 row) (hrow : ∀ k, row = some k → M ≤ k) (hng : n₀ ≤ g) (hgM : g < M) (hM : M ≤ w.heap.size) (u : Value) : Keeps n₀ g M w (w1.setCell ⟨g, 0, none⟩ u) := by
  have hs : (w1.setCell ⟨g, 0, none⟩ u).heap.size = w1.heap.size := by simp [World.setCell]
  have h1 := hg.size
  simp only [World.size_alloc] at h1
  refine ⟨?_, by rw [hs]; omega, fun k hk hkg ⟨cs, t, fr, hc⟩ => ?_⟩
  · have b1 : Below n₀ w ((w.alloc o1).alloc o2) := ((Below.refl n₀ w).alloc (by omega) _).alloc (by simp only [World.size_alloc]; omega) _
    exact (b1.grown hg (by simp only [World.size_alloc]; omega) (fun k e => by have := hrow k e; omega)).setCell (p := ⟨g, 0, none⟩) hng u
  · have hlt : k < w.heap.size := (Array.getElem?_eq_some_iff.1 hc).1
    have hx : some k ≠ row := fun e => by have := hrow k e.symm; omega
    rw [heap_setCell_other w1 ⟨g, 0, none⟩ k u hkg, hg.block k (by simp only [World.size_alloc]; omega) hx, Below.heap_alloc _ _ _ (by simp only [World.size_alloc]; omega), Below.heap_alloc _ _ _ hlt]
theorem own_store {w1 : World} {e : TypeId} {s g M n : Nat} {v : Value} {xs : List Value} (h : w1.ownsRow M e s v n xs) (hg : g < M) (u : Value) : (w1.setCell ⟨g, 0, none⟩ u).ownsRow M e s v n xs :=
  h.kept (grownBy_setCell' w1 g u) (.inr fun e => by have := (h.lt g e).1; omega)

def CellsJ (w0 : World) (g M : Nat) (pre : List Bx) (W : World) : Prop :=
  M ≤ W.heap.size ∧ g < M ∧ Below w0.heap.size w0 W ∧ pre.length ≤ 1000 ∧ ∃ a c, W.cell? ⟨g, 0, none⟩ = some (.slice a pre.length c) ∧ W.frozen? ⟨g, 0, none⟩ = false ∧ W.ownsRow M 56 6 (.slice a pre.length c) pre.length (boxCells pre)
def CellsX (w0 : World) (g N : Nat) (W : World) : Prop := Below w0.heap.size w0 W ∧ 1000 < N ∧ ∃ a n c, W.cell? ⟨g, 0, none⟩ = some (.slice a n c) ∧ 1000 < n ∧ n ≤ 1001
theorem frozen_below {W W' : World} {a : Addr} {v : Value} (hc : W.cell? a = some v) (hb : Below W.heap.size W W') : W'.frozen? a = W.frozen? a := by
  obtain ⟨y, rfl⟩ := ext_of hb
  exact frozen_ext W y a (by rw [hc]; rfl)
theorem cell_below {W W' : World} {a : Addr} {v : Value} (hc : W.cell? a = some v) (hb : Below W.heap.size W W') : W'.cell? a = some v := by
  obtain ⟨y, rfl⟩ := ext_of hb
  exact cell_ext_some hc y
theorem CellsJ.grown {w0 : World} {g M : Nat} {pre : List Bx} {W W' : World} (h : CellsJ w0 g M pre W) (hb : Below W.heap.size W W') : CellsJ w0 g M pre W' := by
  obtain ⟨h1, h2, h3, h4, a, c, h5, h6, h7⟩ := h
  exact ⟨Nat.le_trans h1 hb.size, h2, h3.trans (hb.mono h3.size), h4, a, c, cell_below h5 hb, (frozen_below h5 hb).trans h6, own_below2 h7 hb⟩
theorem CellsX.grown {w0 : World} {g N : Nat} {W W' : World} (h : CellsX w0 g N W) (hb : Below W.heap.size W W') : CellsX w0 g N W' := by
  obtain ⟨h1, h2, a, n, c, h3, h4, h5⟩ := h
  exact ⟨h1.trans (hb.mono h1.size), h2, a, n, c, cell_below h3 hb, h4, h5⟩

def cellsR (l m : List Bx) : List Bx × Int := if solidB l m = true then (if (cellsL l m).length ≤ 1000 then (cellsL l m, 0) else ([], 4)) else ([], 1)
/-- A slice of boxes of the call's own, and an error number. -/
def RetBoxes (w : World) (l : List Bx) (err : Int) (e : Ending) (w' : World) : Prop :=
  ∃ v, e = .returned (.tuple #[v, .int .i64 err]) ∧ w'.ownsRow w.heap.size 56 6 v l.length (boxCells l) ∧ ∃ x, w' = ext w x

end Go.Proofs.YtmhhohancconaaaGreat

namespace Go.Proofs.YtmhhohancconaaaGreat
open Go.RowKit
set_option maxRecDepth 20000

abbrev Thick := { b : Bx // thickB b = true }
def encT (x : Thick) : Array Value := #[(.agg #[.int .i64 x.1.lx, .int .i64 x.1.ly, .int .i64 x.1.lz, .int .i64 x.1.hx, .int .i64 x.1.hy, .int .i64 x.1.hz])]
def KpT (n₀ g : Nat) (W W' : World) : Prop := ∀ M, Keeps n₀ g M W W'
theorem KpT.trans {n₀ g : Nat} {A B C : World} (h : KpT n₀ g A B) (k : KpT n₀ g B C) : KpT n₀ g A C := fun M => (h M).trans (k M)
theorem KpT.book {n₀ g : Nat} {w : World} (hn : n₀ ≤ w.heap.size) (W : World) (l : Nat) (o o' : Obj) (hl : w.heap.size ≤ l) (h : W.heap[l]? = some o) (hc : o.isCells = false) (hw : o.isWalk = false) : KpT n₀ g W (W.putObj l o') := fun M =>
  ⟨belowK_b hn W l o o' hl h hc hw, (grownBy_putObj' W l o').size, fun k _ _ ⟨cs, t, fr, hk⟩ => (grownBy_putObj' W l o').block k (Array.getElem?_eq_some_iff.1 hk).1 (fun e => by cases e; rw [h] at hk; cases hk; cases hc)⟩
theorem grown_of_below {A B : World} (h : Below A.heap.size A B) : A.grownBy B none := ⟨h.os, h.tape, h.output, h.size, fun k hk _ => h.block k hk⟩

end Go.Proofs.YtmhhohancconaaaGreat

namespace Go.Proofs.YtmhhohancconaaaGreat
open Go.RowKit
set_option maxRecDepth 20000
attribute [local go_sem] Oper.semAt_some

def volR (l m : List Bx) : Int × Int := if solidB l m = true then (if volI l m ≤ 1152921504606846976 then (volI l m, 0) else (0, 5)) else (0, 1)
def sumT (xs : List Thick) : Int := sumL volB (xs.map (·.1))
def volV (xs : List Thick) : Value := .int .u64 (IntKind.u64.wrap (sumT xs))

theorem u64_in {n : Int} (h : 0 ≤ n ∧ n ≤ 18446744073709551615) : IntKind.u64.wrap n = n := by rw [IntKind.wrap_u64]; omega
theorem i64_in' {n : Int} (h : -9223372036854775808 ≤ n ∧ n ≤ 9223372036854775807) : wrap64 n = n := by unfold wrap64; omega
theorem vol_step {s a b c : Int} (ha : 0 ≤ a ∧ a ≤ 2097152) (hb : 0 ≤ b ∧ b ≤ 2097152) (hc : 0 ≤ c ∧ c ≤ 2097152) :
    IntKind.u64.wrap (IntKind.u64.wrap s + IntKind.u64.wrap (IntKind.u64.wrap (IntKind.u64.wrap (wrap64 a) * IntKind.u64.wrap (wrap64 b)) * IntKind.u64.wrap (wrap64 c))) = IntKind.u64.wrap (s + a * b * c) := by
  have p1 : 0 ≤ a * b := Int.mul_nonneg ha.1 hb.1
  have p2 : a * b ≤ 4398046511104 := Int.le_trans (Int.mul_le_mul ha.2 hb.2 hb.1 (by omega)) (by decide)
  have p3 : 0 ≤ a * b * c := Int.mul_nonneg p1 hc.1
  have p4 : a * b * c ≤ 9223372036854775808 := Int.le_trans (Int.mul_le_mul p2 hc.2 hc.1 (by omega)) (by decide)
  rw [i64_in' (n := a) (by omega), i64_in' (n := b) (by omega), i64_in' (n := c) (by omega), u64_in (n := a) (by omega), u64_in (n := b) (by omega), u64_in (n := c) (by omega), u64_in (n := a * b) (by omega), u64_in (n := a * b * c) (by omega)]
  generalize a * b * c = v
  rw [IntKind.wrap_u64, IntKind.wrap_u64, IntKind.wrap_u64, Int.emod_add_emod]
theorem sumT_snoc (pre : List Thick) (x : Thick) : sumT (pre ++ [x]) = sumT pre + (x.1.hx - x.1.lx) * (x.1.hy - x.1.ly) * (x.1.hz - x.1.lz) := by
  unfold sumT
  rw [List.map_append, sumL_append]
  simp only [List.map_cons, List.map_nil, sumL, volB]
  omega

/-- Block B is a box of the call's own. -/
def BoxedX (W : World) (B : Nat) (b : Bx) : Prop := W.heap[B]? = some (.cells #[.int .i64 b.lx, .int .i64 b.ly, .int .i64 b.lz, .int .i64 b.hx, .int .i64 b.hy, .int .i64 b.hz] 56)
theorem BoxedX.kept {W W' : World} {row : Option Nat} {B : Nat} {b : Bx} (h : BoxedX W B b) (hg : W.grownBy W' row) (hr : ∀ r, row = some r → ∃ o : Obj, W.heap[r]? = some o ∧ o.isCells = false) : BoxedX W' B b :=
  (hg.block B (Array.getElem?_eq_some_iff.1 h).1 (fun e => by obtain ⟨o, ho, hc⟩ := hr B e.symm; rw [show W.heap[B]? = _ from h] at ho; cases ho; cases hc)).trans h
theorem BoxedX.cells {W : World} {B : Nat} {b : Bx} (h : BoxedX W B b) : W.cell? ⟨B, 0, none⟩ = some (.int .i64 b.lx) ∧ W.cell? ⟨B, 1, none⟩ = some (.int .i64 b.ly) ∧ W.cell? ⟨B, 2, none⟩ = some (.int .i64 b.lz) ∧
    W.cell? ⟨B, 3, none⟩ = some (.int .i64 b.hx) ∧ W.cell? ⟨B, 4, none⟩ = some (.int .i64 b.hy) ∧ W.cell? ⟨B, 5, none⟩ = some (.int .i64 b.hz) := by
  refine ⟨?_, ?_, ?_, ?_, ?_, ?_⟩ <;> simp [World.cell?, show W.heap[B]? = _ from h]
theorem keeps_set {n₀ g : Nat} (hn : n₀ ≤ g) (W : World) (u : Value) : KpT n₀ g W (W.setCell ⟨g, 0, none⟩ u) := fun M =>
  ⟨(Below.refl _ _).setCell (p := ⟨g, 0, none⟩) hn u, by simp [World.setCell], fun k _ hk _ => heap_setCell_other W ⟨g, 0, none⟩ k u hk⟩

end Go.Proofs.YtmhhohancconaaaGreat

namespace Go.Proofs.YtmhhohancconaaaGreat
open Go.RowKit
set_option maxRecDepth 20000
attribute [local go_sem] Oper.semAt_some

def sectR (l m : List Bx) (x : Int) : Int × Int := if solidB l m = true then (if -1048576 ≤ x ∧ x ≤ 1048576 then (sectI l m x, 0) else (0, 2)) else (0, 1)
def secF (x : Int) (c : Bx) : Int := if c.lx ≤ x ∧ x < c.hx then areaB c else 0
def secT (x : Int) (xs : List Thick) : Int := sumL (secF x) (xs.map (·.1))
def secV (x : Int) (xs : List Thick) : Value := .int .i64 (wrap64 (secT x xs))
theorem sec_nil (x : Int) : secV x [] = .int .i64 0 := by simp [secV, secT, sumL, wrap64]
theorem secT_snoc (x : Int) (pre : List Thick) (c : Thick) : secT x (pre ++ [c]) = secT x pre + secF x c.1 := by
  unfold secT
  rw [List.map_append, sumL_append]
  simp only [List.map_cons, List.map_nil, sumL]
  omega
theorem sec_step {s b c : Int} (hb : 0 ≤ b ∧ b ≤ 2097152) (hc : 0 ≤ c ∧ c ≤ 2097152) : wrap64 (wrap64 s + wrap64 (wrap64 b * wrap64 c)) = wrap64 (s + b * c) := by
  have p1 : 0 ≤ b * c := Int.mul_nonneg hb.1 hc.1
  have p2 : b * c ≤ 4398046511104 := Int.le_trans (Int.mul_le_mul hb.2 hc.2 hc.1 (by omega)) (by decide)
  rw [i64_in' (n := b) (by omega), i64_in' (n := c) (by omega)]
  generalize b * c = v at *
  unfold wrap64
  omega
theorem heap_below2 {W W' : World} {B : Nat} {t : TypeId} {v : Value} (h : Boxed W B t v) (hb : Below W.heap.size W W') : Boxed W' B t v := (hb.block B h.lt).trans h
theorem sect_bound {l m : List Bx} (h : l.all thickB = true) (h0 : l ≠ []) (x : Int) : 0 ≤ sectI l m x ∧ sectI l m x ≤ 4398046511104 := by
  rw [sect_eq h h0]
  refine ⟨sec_nonneg x, ?_⟩
  have ht := hull_thick h h0
  have hv := valid_iff.1 (thick_iff.1 ht).1
  have ho := ord_of ht
  have e : sumI (fun _ => sumI (fun _ => (1 : Int)) (hullX l).lz (hullX l).hz) (hullX l).ly (hullX l).hy = ((hullX l).hz - (hullX l).lz) * ((hullX l).hy - (hullX l).ly) := by
    rw [sumI_const _ ho.2.2, Int.one_mul, sumI_const _ ho.2.1]
  have h1 : secI l m (hullX l) x ≤ sumI (fun _ => sumI (fun _ => (1 : Int)) (hullX l).lz (hullX l).hz) (hullX l).ly (hullX l).hy := sumI_le fun _ _ _ => sumI_le fun _ _ _ => (ind_bounds _ _ _).2
  rw [e] at h1
  exact Int.le_trans h1 (Int.le_trans (Int.mul_le_mul (show _ ≤ (2097152 : Int) by omega) (show _ ≤ (2097152 : Int) by omega) (by omega) (by omega)) (by decide))

end Go.Proofs.YtmhhohancconaaaGreat

