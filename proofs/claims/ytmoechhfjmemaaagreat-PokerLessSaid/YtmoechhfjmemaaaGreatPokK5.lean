/- PokQ, PokR in one text. -/
import Derived.Test.YtmoechhfjmemaaaGreatPokK4
namespace Go.Proofs.YtmoechhfjmemaaaGreat
open Go.RowKit
set_option maxRecDepth 20000

theorem rStep_v (n : Int) (r : Bool) (h : decide (1 ≤ n ∧ n ≤ 1048576) = r) (w : World) : Calls Tryz.prog 33 #[.int .i64 n] w (Ret w (.bool r)) := by
  rw [Bool.decide_and] at h
  by_cases h1 : 1 ≤ n
  · have d1 : decide (1 ≤ n) = true := decide_eq_true h1
    rw [d1, Bool.true_and] at h
    go_enter Tryz.func33, Tryz.ntmps33
    go_wp2
    go_ret
    exact Ret.of (by (repeat (first | exact grow_refl _ | refine grow_ext _ ?_ | refine grow_alloc _ ?_ | refine grow_drew ?_)))
  · have d1 : decide (1 ≤ n) = false := decide_eq_false h1
    rw [d1, Bool.false_and] at h
    subst h
    go_enter Tryz.func33, Tryz.ntmps33
    go_wp2
    go_ret
    exact Ret.of (by (repeat (first | exact grow_refl _ | refine grow_ext _ ?_ | refine grow_alloc _ ?_ | refine grow_drew ?_)))

/-- How many coordinates a grid has along an axis. -/
def cntI (lo hi st : Int) : Int := (hi - lo) / st + 1
theorem cnt_in {lo hi st : Int} (h : lo ≤ hi) (hs : 1 ≤ st) : 1 ≤ cntI lo hi st ∧ cntI lo hi st ≤ hi - lo + 1 := by
  unfold cntI
  have h1 := Int.ediv_nonneg (show 0 ≤ hi - lo by omega) (show 0 ≤ st by omega)
  have h2 := Int.ediv_le_self st (show 0 ≤ hi - lo by omega)
  omega
theorem rCount22_c (lo hi st : Int) (h : lo ≤ hi) (h1 : -1048576 ≤ lo) (h2 : hi ≤ 1048576) (hs : 1 ≤ st) (w : World) : Calls Tryz.prog 79 #[.int .i64 lo, .int .i64 hi, .int .i64 st] w (Ret w (.int .i64 (cntI lo hi st))) := by
  have e1 : (hi - lo).tdiv st = (hi - lo) / st := Int.tdiv_eq_ediv_of_nonneg (by omega)
  have hc := cnt_in h hs
  have HE := Lib.hid (show cntI lo hi st = (hi - lo) / st + 1 from rfl)
  rw [HE.out] at hc
  obtain ⟨k, hk⟩ : ∃ k, (hi - lo) / st = k := ⟨_, rfl⟩
  rw [hk] at e1 hc HE
  have z1 : st ≠ 0 := by omega
  clear hk
  go_enter Tryz.func79, Tryz.ntmps79
  go_wp2
  go_ret
  rw [HE.out]
  exact Ret.of (by (repeat (first | exact grow_refl _ | refine grow_ext _ ?_ | refine grow_alloc _ ?_ | refine grow_drew ?_)))

theorem hull_in {q : Mb} (hs : solidB q.l q.m = true) : validB (hullX q.l) = true := by
  have h1 := solid_iff.1 hs
  have h0 : q.l ≠ [] := by intro e; rw [e] at h1; simp at h1
  have := hull_thick h1.2.2.1 h0
  unfold thickB at this
  simp only [Bool.and_eq_true] at this
  exact this.1
def largeB (q : Mb) (st : Int) : Bool :=
  decide (5000 < cntI (hullX q.l).lx (hullX q.l).hx st) || (decide (5000 < cntI (hullX q.l).lx (hullX q.l).hx st * cntI (hullX q.l).ly (hullX q.l).hy st) || decide (5000 < cntI (hullX q.l).lx (hullX q.l).hx st * cntI (hullX q.l).ly (hullX q.l).hy st * cntI (hullX q.l).lz (hullX q.l).hz st))

set_option maxHeartbeats 2000000 in
theorem rLarge_v (q : Mb) (st : Int) (r : Bool) (h : largeB q st = r) (hs : solidB q.l q.m = true) (h1 : 1 ≤ st) (w : World) (hq : MbAt w q) : Calls Tryz.prog 34 #[(.agg #[.string q.name, q.u, q.t, .int .i64 q.cover, .int .i64 q.agg, .int .i64 q.poker]), .int .i64 st] w (Ret w (.bool r)) := by
  have HQ := Lib.hid hq
  have HH := Lib.hid (fun w hl => refSolHull_c q.l q.u q.t (solid_some hs) w hl)
  have hv := valid_iff.1 (hull_in hs)
  unfold largeB at h
  generalize hullX q.l = H at *
  obtain ⟨v1, v2, v3, v4, v5, v6, v7, v8, v9⟩ := hv
  have HX := Lib.hid (fun w => rCount22_c H.lx H.hx st v2 v1 v3 h1 w)
  have HY := Lib.hid (fun w => rCount22_c H.ly H.hy st v5 v4 v6 h1 w)
  have HZ := Lib.hid (fun w => rCount22_c H.lz H.hz st v8 v7 v9 h1 w)
  have bx := cnt_in v2 h1
  have bY := cnt_in v5 h1
  have bz := cnt_in v8 h1
  generalize cntI H.lx H.hx st = X at *
  generalize cntI H.ly H.hy st = Y at *
  generalize cntI H.lz H.hz st = Z at *
  clear hq hs
  cases d1 : decide (5000 < X)
  case true =>
    rw [d1, Bool.true_or] at h
    subst h
    go_enter Tryz.func34, Tryz.ntmps34
    go_wp2_with fail
    go_at_call 58; refine (HH.out _ (HQ.out.boxes.below (by (repeat (first | exact grow_refl _ | refine grow_ext _ ?_ | refine grow_alloc _ ?_ | refine grow_drew ?_))))).mono ?_; rintro e w' ⟨rfl, x1, rfl⟩
    go_wp2_with fail
    go_at_call 79; refine (HX.out _).mono ?_; rintro e w' ⟨rfl, x2, rfl⟩
    go_wp2
    go_ret
    exact Ret.of (by (repeat (first | exact grow_refl _ | refine grow_ext _ ?_ | refine grow_alloc _ ?_ | refine grow_drew ?_)))
  rw [d1, Bool.false_or] at h
  have hX : X ≤ 5000 := by have := of_decide_eq_false d1; omega
  have hm : 0 ≤ X * Y ∧ X * Y ≤ 5000 * 2097153 := ⟨Int.mul_nonneg (by omega) (by omega), Int.mul_le_mul hX (by omega) (by omega) (by omega)⟩
  obtain ⟨M, hM⟩ : ∃ M, X * Y = M := ⟨_, rfl⟩
  rw [hM] at h hm
  have w1 : IntKind.i64.wrap M = M := IntWalk.i64_in _ (by omega)
  cases d2 : decide (5000 < M)
  case true =>
    rw [d2, Bool.true_or] at h
    subst h
    go_enter Tryz.func34, Tryz.ntmps34
    go_wp2_with fail
    go_at_call 58; refine (HH.out _ (HQ.out.boxes.below (by (repeat (first | exact grow_refl _ | refine grow_ext _ ?_ | refine grow_alloc _ ?_ | refine grow_drew ?_))))).mono ?_; rintro e w' ⟨rfl, x1, rfl⟩
    go_wp2_with fail
    go_at_call 79; refine (HX.out _).mono ?_; rintro e w' ⟨rfl, x2, rfl⟩
    go_wp2_with fail
    go_at_call 79; refine (HY.out _).mono ?_; rintro e w' ⟨rfl, x3, rfl⟩
    go_wp2
    go_ret
    exact Ret.of (by (repeat (first | exact grow_refl _ | refine grow_ext _ ?_ | refine grow_alloc _ ?_ | refine grow_drew ?_)))
  rw [d2, Bool.false_or] at h
  have hM2 : M ≤ 5000 := by have := of_decide_eq_false d2; omega
  have hn : 0 ≤ M * Z ∧ M * Z ≤ 5000 * 2097153 := ⟨Int.mul_nonneg (by omega) (by omega), Int.mul_le_mul hM2 (by omega) (by omega) (by omega)⟩
  obtain ⟨N, hN⟩ : ∃ N, M * Z = N := ⟨_, rfl⟩
  rw [hN] at h hn
  have w2 : IntKind.i64.wrap N = N := IntWalk.i64_in _ (by omega)
  go_enter Tryz.func34, Tryz.ntmps34
  go_wp2_with fail
  go_at_call 58; refine (HH.out _ (HQ.out.boxes.below (by (repeat (first | exact grow_refl _ | refine grow_ext _ ?_ | refine grow_alloc _ ?_ | refine grow_drew ?_))))).mono ?_; rintro e w' ⟨rfl, x1, rfl⟩
  go_wp2_with fail
  go_at_call 79; refine (HX.out _).mono ?_; rintro e w' ⟨rfl, x2, rfl⟩
  go_wp2_with fail
  go_at_call 79; refine (HY.out _).mono ?_; rintro e w' ⟨rfl, x3, rfl⟩
  go_wp2_with fail
  go_at_call 79; refine (HZ.out _).mono ?_; rintro e w' ⟨rfl, x4, rfl⟩
  go_wp2
  go_ret
  exact Ret.of (by (repeat (first | exact grow_refl _ | refine grow_ext _ ?_ | refine grow_alloc _ ?_ | refine grow_drew ?_)))

end Go.Proofs.YtmoechhfjmemaaaGreat

namespace Go.Proofs.YtmoechhfjmemaaaGreat
open Go.RowKit
set_option maxRecDepth 20000

theorem gridL_len (lo hi st : Int) : (gridL lo hi st).length = (cntI lo hi st).toNat := by unfold gridL cntI; simp
theorem gridL_get (lo hi st : Int) (i : Nat) (h : i < (gridL lo hi st).length) : (gridL lo hi st)[i] = lo + (i : Int) * st := by
  have e : (gridL lo hi st)[i]? = some (lo + (i : Int) * st) := by
    rw [gridL_len] at h
    unfold cntI at h
    unfold gridL
    rw [List.getElem?_map, List.getElem?_range h]; rfl
  rw [List.getElem?_eq_getElem h] at e
  exact Option.some.inj e
theorem cnt_last {lo hi st : Int} (_ : lo ≤ hi) (hs : 1 ≤ st) (i : Int) (_ : 0 ≤ i) : (lo + i * st ≤ hi) ↔ i < cntI lo hi st := by
  unfold cntI
  have := @Int.le_ediv_iff_mul_le i (hi - lo) st (by omega)
  omega
theorem grid_bound {lo hi st : Int} (h : lo ≤ hi) (hs : 1 ≤ st) {x : Int} (hx : x ∈ gridL lo hi st) : lo ≤ x ∧ x ≤ hi := by
  obtain ⟨i, hi', rfl⟩ := List.getElem_of_mem hx
  rw [gridL_get]
  rw [gridL_len] at hi'
  have hc := cnt_in h hs
  have := (cnt_last h hs (i : Int) (by omega)).2 (by omega)
  have : 0 ≤ (i : Int) * st := Int.mul_nonneg (by omega) (by omega)
  omega

/-- A slice of numbers that lies elsewhere than two blocks. -/
def IntsN (g g' : Nat) (w : World) (v : Value) (l : List Int) : Prop := Ints w v l ∧ ∀ b, v.ownBlock = some b → b ≠ g ∧ b ≠ g'
def SameBut (g : Nat) (w w' : World) : Prop := w.heap.size ≤ w'.heap.size ∧ ∀ b, b < w.heap.size → b ≠ g → w'.heap[b]? = w.heap[b]?
theorem SameBut.refl (g : Nat) (w : World) : SameBut g w w := ⟨Nat.le_refl _, fun _ _ _ => rfl⟩
theorem SameBut.blk {g : Nat} {w w' : World} (h : SameBut g w w') {k : Nat} {cs : Array Value} {t : TypeId} (hb : Blk w k cs t) (hk : k ≠ g) : Blk w' k cs t := hb.of_block (h.2 k hb.lt hk)
theorem IntsN.keep {g g' : Nat} {w w' : World} {v : Value} {l : List Int} (h : IntsN g g' w v l) (hs : ∀ b, b < w.heap.size → b ≠ g → b ≠ g' → w'.heap[b]? = w.heap[b]?) : IntsN g g' w' v l := by
  obtain ⟨⟨b, off, cap, rfl, h2, h3, h4⟩, h5⟩ := h
  refine ⟨⟨b, off, cap, rfl, h2, h3, fun i hi => ?_⟩, h5⟩
  have hlt := World.block_lt_of_cell? w _ (h4 i hi)
  rw [World.cell?_of_block (w := w) (a := ⟨b, off + i, none⟩) (hs b hlt (h5 b rfl).1 (h5 b rfl).2)]
  exact h4 i hi
theorem IntsN.same {g g' : Nat} {w w' : World} {v : Value} {l : List Int} (h : IntsN g g' w v l) (hs : SameBut g' w w') : IntsN g g' w' v l := h.keep fun b hb _ h2 => hs.2 b hb h2
theorem IntsN.set3 {g g' : Nat} {w : World} {v : Value} {l : List Int} (h : IntsN g g' w v l) (i j k : Nat) (a b c : Value) : IntsN g g' (((w.setCell ⟨g, i, none⟩ a).setCell ⟨g, j, none⟩ b).setCell ⟨g, k, none⟩ c) v l :=
  h.keep fun b _ h1 _ => by rw [Below.heap_setCell _ _ _ b h1, Below.heap_setCell _ _ _ b h1, Below.heap_setCell _ _ _ b h1]
theorem IntsN.of_own {g g' : Nat} {w : World} {base : Nat} {v : Value} {l : List Int} {cs cs' : Array Value} {t : TypeId} (h : w.ownsRow base 3 1 v l.length (l.map (Value.int .i64))) (h0 : 0 < l.length) (hb : Blk w g cs t) (hb' : Blk w g' cs' t) (ht : t ≠ 3) : IntsN g g' w v l := by
  have hne := hb.ne_row h ht
  have hne' := hb'.ne_row h ht
  obtain ⟨a, cap, rfl, h1, h2, h3⟩ := own_shape h
  obtain ⟨b, rfl, _, h4⟩ := h3 h0
  unfold maxLen at h2
  refine ⟨⟨b, 0, cap, rfl, h1, by omega, fun i hi => ?_⟩, fun b' e => ⟨fun q => hne (by rw [e, q]), fun q => hne' (by rw [e, q])⟩⟩
  rw [Nat.zero_add, h4 i (by omega)]
  simp [hi]
theorem own_int1 {W : World} {M : Nat} {v : Value} {n : Nat} {l : List Int} {x : Int} (h : W.ownsRow M 3 1 v (n + 1) (l.map (Value.int .i64) ++ [Value.int .i64 x])) : W.ownsRow M 3 1 v (n + 1) ((l ++ [x]).map (Value.int .i64)) := by
  rw [List.map_append]; exact h
theorem sameBut_step {g : Nat} {w wr w1 : World} {o : Obj} {row : Option Nat} (h : SameBut g w wr) (hg : (wr.alloc o).grownBy w1 row) (hr : ∀ k, row = some k → w.heap.size ≤ k) (i : Nat) (u : Value) : SameBut g w (w1.setCell ⟨g, i, none⟩ u) := by
  have hs : (w1.setCell ⟨g, i, none⟩ u).heap.size = w1.heap.size := by simp [World.setCell]
  have h1 := hg.size
  simp only [World.size_alloc] at h1
  have h0 := h.1
  refine ⟨by rw [hs]; omega, fun b hb hbg => ?_⟩
  rw [Below.heap_setCell w1 ⟨g, i, none⟩ u b hbg, hg.block b (by simp only [World.size_alloc]; omega) (fun e => by have := hr b e.symm; omega), Below.heap_alloc _ _ _ (by omega), h.2 b hb hbg]
theorem gridL_take (lo hi st : Int) (j : Nat) (h : j < (gridL lo hi st).length) : (gridL lo hi st).take (j + 1) = (gridL lo hi st).take j ++ [lo + (j : Int) * st] := by
  rw [List.take_succ_eq_append_getElem h, gridL_get]

theorem idx32_0 (a b c d e f : Value) (w : World) : (Instr.index 142 (.agg #[a, b, c, d, e, f]) (.int .i64 0)).run Tryz.prog w = .ok (.agg #[a, b]) w := by kernel_rfl
theorem idx32_1 (a b c d e f : Value) (w : World) : (Instr.index 142 (.agg #[a, b, c, d, e, f]) (.int .i64 1)).run Tryz.prog w = .ok (.agg #[c, d]) w := by kernel_rfl
theorem idx32_2 (a b c d e f : Value) (w : World) : (Instr.index 142 (.agg #[a, b, c, d, e, f]) (.int .i64 2)).run Tryz.prog w = .ok (.agg #[e, f]) w := by kernel_rfl
theorem SameBut.alloc {g : Nat} {w wr : World} (h : SameBut g w wr) (o : Obj) : SameBut g w (wr.alloc o) := ⟨by simp only [World.size_alloc]; have := h.1; omega, fun b hb hbg => by rw [Below.heap_alloc _ _ _ (by have := h.1; omega)]; exact h.2 b hb hbg⟩
theorem set3_below {w wr : World} {g : Nat} (h : Below w.heap.size w wr) (hg : w.heap.size ≤ g) (i j k : Nat) (a b c : Value) : Below w.heap.size w (((wr.setCell ⟨g, i, none⟩ a).setCell ⟨g, j, none⟩ b).setCell ⟨g, k, none⟩ c) :=
  ((h.setCell (p := ⟨g, i, none⟩) hg a).setCell (p := ⟨g, j, none⟩) hg b).setCell (p := ⟨g, k, none⟩) hg c
theorem set3_below2 {w wr : World} {g : Nat} (h : Below w.heap.size w wr) (hg : w.heap.size ≤ g) (i j k : Nat) (a b c : Value) (o : Obj) : Below w.heap.size w ((((wr.setCell ⟨g, i, none⟩ a).setCell ⟨g, j, none⟩ b).setCell ⟨g, k, none⟩ c).alloc o) := (set3_below h hg i j k a b c).alloc (set3_below h hg i j k a b c).size o
/-- What grid hands back. -/
def RetGrid (w : World) (H : Bx) (st : Int) (lg : Bool) (e : Ending) (W : World) : Prop :=
  (lg = true ∧ e = .returned (.tuple #[.agg #[.slice none 0 0, .slice none 0 0, .slice none 0 0], .int .i64 6]) ∧ ∃ x, W = ext w x) ∨
  (lg = false ∧ ∃ v0 v1 v2, e = .returned (.tuple #[.agg #[v0, v1, v2], .int .i64 0]) ∧ Ints W v0 (gridL H.lx H.hx st) ∧ Ints W v1 (gridL H.ly H.hy st) ∧ Ints W v2 (gridL H.lz H.hz st) ∧ ∃ x, W = ext w x)

set_option maxRecDepth 100000 in
set_option maxHeartbeats 8000000 in
theorem grid_w (q : Mb) (st : Int) (hs : solidB q.l q.m = true) (h1 : 1 ≤ st) (h2 : st ≤ 1048576) (w : World) (hq : MbAt w q) :
    Calls Tryz.prog 76 #[(.agg #[.string q.name, q.u, q.t, .int .i64 q.cover, .int .i64 q.agg, .int .i64 q.poker]), .int .i64 st] w (RetGrid w (hullX q.l) st (largeB q st)) := by
  have HQ := Lib.hid hq
  have HH := Lib.hid (fun w hl hm => solidHull_c q.l q.m q.u q.t w hl hm)
  rw [show hullS q.l q.m = (hullX q.l, 0) by unfold hullS; rw [if_pos hs]] at HH
  have hv := valid_iff.1 (hull_in hs)
  unfold largeB
  generalize hullX q.l = H at *
  obtain ⟨v1, v2, v3, v4, v5, v6, v7, v8, v9⟩ := hv
  have ex := cnt_in v2 h1
  have ey := cnt_in v5 h1
  have ez := cnt_in v8 h1
  have LX := Lib.hid (fun i h0 => cnt_last v2 h1 i h0)
  have LY := Lib.hid (fun i h0 => cnt_last v5 h1 i h0)
  have LZ := Lib.hid (fun i h0 => cnt_last v8 h1 i h0)
  have nx := gridL_len H.lx H.hx st
  have ny := gridL_len H.ly H.hy st
  have nz := gridL_len H.lz H.hz st
  have TX := Lib.hid (fun j h => gridL_take H.lx H.hx st j h)
  have TY := Lib.hid (fun j h => gridL_take H.ly H.hy st j h)
  have TZ := Lib.hid (fun j h => gridL_take H.lz H.hz st j h)
  have qx : (H.hx - H.lx).tdiv st + 1 = cntI H.lx H.hx st := by unfold cntI; rw [Int.tdiv_eq_ediv_of_nonneg (by omega)]
  have qy : (H.hy - H.ly).tdiv st + 1 = cntI H.ly H.hy st := by unfold cntI; rw [Int.tdiv_eq_ediv_of_nonneg (by omega)]
  have qz : (H.hz - H.lz).tdiv st + 1 = cntI H.lz H.hz st := by unfold cntI; rw [Int.tdiv_eq_ediv_of_nonneg (by omega)]
  unfold RetGrid
  generalize gridL H.lx H.hx st = GX at *
  generalize gridL H.ly H.hy st = GY at *
  generalize gridL H.lz H.hz st = GZ at *
  generalize cntI H.lx H.hx st = X at *
  generalize cntI H.ly H.hy st = Y at *
  generalize cntI H.lz H.hz st = Z at *
  have z1 : st ≠ 0 := by omega
  obtain ⟨lx, ly, lz, hx, hy, hz⟩ := H
  simp only at *
  have ix := @idx32_0
  have iy := @idx32_1
  have iz := @idx32_2
  obtain ⟨kx, ekx⟩ : ∃ k, (hx - lx).tdiv st = k := ⟨_, rfl⟩
  obtain ⟨ky, eky⟩ : ∃ k, (hy - ly).tdiv st = k := ⟨_, rfl⟩
  obtain ⟨kz, ekz⟩ : ∃ k, (hz - lz).tdiv st = k := ⟨_, rfl⟩
  rw [ekx] at qx
  rw [eky] at qy
  rw [ekz] at qz
  have NX := Lib.hid nx
  have NY := Lib.hid ny
  have NZ := Lib.hid nz
  obtain ⟨M, hM0⟩ : ∃ M, X * Y = M := ⟨_, rfl⟩
  obtain ⟨P, hP0⟩ : ∃ P, M * Z = P := ⟨_, rfl⟩
  have HMP := Lib.hid (⟨hM0, hP0⟩ : X * Y = M ∧ M * Z = P)
  clear hM0 hP0
  have RX : -1 ≤ kx ∧ kx ≤ 2097152 := by omega
  have RY : -1 ≤ ky ∧ ky ≤ 2097152 := by omega
  have RZ : -1 ≤ kz ∧ kz ≤ 2097152 := by omega
  clear hq hs nx ny nz
  go_enter Tryz.func76, Tryz.ntmps76
  go_wp2_with fail
  go_at_call 32; refine (HH.out _ (HQ.out.boxes.below (by (repeat (first | exact grow_refl _ | refine grow_ext _ ?_ | refine grow_alloc _ ?_ | refine grow_drew ?_)))) (HQ.out.holes.below (by (repeat (first | exact grow_refl _ | refine grow_ext _ ?_ | refine grow_alloc _ ?_ | refine grow_drew ?_))))).mono ?_; rintro e w' ⟨rfl, x1, rfl⟩
  go_wp2_with fail
  obtain ⟨g9, hg9⟩ : ∃ g, w.heap.size + 1 + 1 + x1.heap.size + 1 = g := ⟨_, rfl⟩
  rw [hg9]
  obtain ⟨g6, hg6⟩ : ∃ g, w.heap.size + 1 + 1 + x1.heap.size = g := ⟨_, rfl⟩
  rw [hg6]
  obtain ⟨g4, hg4⟩ : ∃ g, w.heap.size + 1 = g := ⟨_, rfl⟩
  rw [hg4]
  refine world_mask (fun W => Below w.heap.size w W ∧ Blk W g4 #[.slice none 0 0, .slice none 0 0, .slice none 0 0] 107 ∧ Blk W g9 #[.slice none 0 0, .slice none 0 0, .slice none 0 0] 107) _ ⟨by (repeat (first | exact grow_refl _ | refine grow_ext _ ?_ | refine grow_alloc _ ?_ | refine grow_drew ?_)), (((Blk.new' (by rw [← hg4]; simp) _ _).ext _).alloc _).alloc _, Blk.new' (by rw [← hg9]; simp [size_ext]) _ _⟩ ?_
  have n49 : g4 ≠ g9 := by omega
  have l4 : w.heap.size ≤ g4 := by omega
  have l9 : w.heap.size ≤ g9 := by omega
  clear hg9 hg6 hg4
  rintro W0 ⟨hb0, b40, b90⟩
  have HB0 := Lib.hid hb0
  have D40 := Lib.hid b40
  have D90 := Lib.hid b90
  clear hb0 b40 b90
  refine wp_loop_rounds 4 ?_
  cases hd0 : decide (5000 < X)
  case true =>
    have c0 : W0.cell? ⟨g4, 0, none⟩ = some (.slice none 0 0) := (D40.out.cell 0).trans rfl
    have c1 : W0.cell? ⟨g4, 1, none⟩ = some (.slice none 0 0) := (D40.out.cell 1).trans rfl
    have c2 : W0.cell? ⟨g4, 2, none⟩ = some (.slice none 0 0) := (D40.out.cell 2).trans rfl
    have f0 := D40.out.frozen 0
    have f1 := D40.out.frozen 1
    have f2 := D40.out.frozen 2
    rw [rounds_succ]
    go_wp2
    refine bodyPost_ret (v := .tuple #[.agg #[.slice none 0 0, .slice none 0 0, .slice none 0 0], .int .i64 6]) (by simp [results, Tryz.results76, go_sem, c0, c1, c2]) rfl ?_
    exact .inl ⟨by rw [hd0]; rfl, rfl, ext_of (set3_below2 HB0.out l4 _ _ _ _ _ _ _)⟩
  have hd0' : X ≤ 5000 := by have := of_decide_eq_false hd0; omega
  rw [rounds_succ]
  go_wp2_with fail
  obtain ⟨gs, hgs⟩ : ∃ g, W0.heap.size = g := ⟨_, rfl⟩
  rw [hgs]
  refine world_mask (fun W => Below w.heap.size w W ∧ Blk W g4 #[.slice none 0 0, .slice none 0 0, .slice none 0 0] 107 ∧ Blk W g9 #[.slice none 0 0, .slice none 0 0, .slice none 0 0] 107 ∧ Blk W gs #[.int .i64 lx, .int .i64 hx] 141 ∧ gs < W.heap.size) _ ⟨HB0.out.alloc HB0.out.size _, D40.out.alloc _, D90.out.alloc _, Blk.new' hgs.symm _ _, by simp only [World.size_alloc]; omega⟩ ?_
  have hgs9 : gs ≠ g9 := by have := D90.out.lt; omega
  clear hgs
  rintro V0 ⟨hb, b4, b9, bs, lgs⟩
  have EB := Lib.hid hb
  have E4 := Lib.hid b4
  have E9 := Lib.hid b9
  have ES := Lib.hid bs
  clear hb b4 b9 bs
  go_loopw [13] (fun a wr => ∃ (j : Nat) (u : Value), j ≤ GX.length ∧ a = .int .i64 (lx + (j : Int) * st) ∧ Below w.heap.size w wr ∧ SameBut g9 V0 wr ∧ Blk wr g9 #[u, .slice none 0 0, .slice none 0 0] 107 ∧ wr.ownsRow V0.heap.size 3 1 u j ((GX.take j).map (Value.int .i64))) (fun a _ => (hx + 1 - intOf a).toNat)
  case atStart => exact ⟨0, .slice none 0 0, Nat.zero_le _, by simp, EB.out, SameBut.refl _ _, E9.out, World.ownsRow_nil _ _ _ _⟩
  case round =>
    obtain ⟨j, u, hj, rfl, hbw, hsm, hb9, hown⟩ := hrel
    have HBW := Lib.hid hbw
    have HSM := Lib.hid hsm
    have HB9 := Lib.hid hb9
    have HOW := Lib.hid hown
    have hln : (GX.take j).length = j := by rw [List.length_take]; omega
    have e0 : wr.cell? ⟨gs, 0, none⟩ = some (.int .i64 lx) := ((HSM.out.blk ES.out hgs9).cell 0).trans rfl
    have e1 : wr.cell? ⟨gs, 1, none⟩ = some (.int .i64 hx) := ((HSM.out.blk ES.out hgs9).cell 1).trans rfl
    have e9 : wr.cell? ⟨g9, 0, none⟩ = some u := (HB9.out.cell 0).trans rfl
    have hor := LX.out (j : Int) (by omega)
    have HNL := Lib.hid NX.out
    obtain ⟨u0, cc0, rfl, m1, m2, -⟩ := own_shape hown
    have m3 : cc0 ≤ 9223372036854775807 := m2
    clear hbw hsm hb9 hown
    by_cases hlt : j < GX.length
    · have hor1 := hor.2 (by have := HNL.out; omega)
      have HTK := Lib.hid (TX.out j hlt)
      have hA0 : lx ≤ lx + (j : Int) * st := by have : 0 ≤ (j : Int) * st := Int.mul_nonneg (by omega) (by omega); omega
      have HST : lx + (j : Int) * st + st = lx + ((j + 1 : Nat) : Int) * st := by push_cast; rw [Int.add_mul]; omega
      have HST := Lib.hid HST
      obtain ⟨A, hA⟩ : ∃ A, lx + (j : Int) * st = A := ⟨_, rfl⟩
      rw [hA] at hor1 hA0 HST HTK
      rw [hA]
      have LN := Lib.hid hln
      have LJ : j ≤ 2097153 := by have := HNL.out; omega
      clear hor hA m2 hln
      go_wp2_with (at_builtin; refine app_own_b rfl _ _ 96 rfl 3 (.int .i64 0) 1 8 Tryz.underlying96 info_int rfl (by decide) V0.heap.size (.slice u0 j cc0) j ((GX.take j).map (Value.int .i64)) _ rfl (HOW.out.alloc _) _ 1 1 [.int .i64 A] rfl rfl (cells_new ?_ _ _ _ rfl) (by simp [Value.oneCell']) ?_ (by decide) ?_ ?_; (first | rfl | simp [size_ext]); omega; (have := HSM.out.1; simp only [World.size_alloc]; omega); intro v' w1 hown' hgrow; have B1 := (HB9.out.alloc (.cells #[.int .i64 A] 3)).grown hgrow (own_base_ne HOW.out E9.out.lt); have e' : w1.cell? ⟨g9, 0, none⟩ = some (.slice u0 j cc0) := (B1.cell 0).trans rfl; have f' := B1.frozen 0; have HB1 := Lib.hid B1; have HG := Lib.hid hgrow; have HO2 := Lib.hid (own_int1 hown'); obtain ⟨a', c', rfl, -, -, -⟩ := own_shape hown'; clear B1 hgrow hown')
      go_roundw
      case rel => exact ⟨j + 1, .slice a' (j + 1) c', by omega, by rw [HST.out], ((HBW.out.alloc HBW.out.size _).grown HG.out (by have := HBW.out.size; simp only [World.size_alloc]; omega) (fun b e => by have := own_row HOW.out b e; have := EB.out.size; omega)).setCell (p := ⟨g9, 0, none⟩) l9 _, sameBut_step HSM.out HG.out (own_row HOW.out) 0 _, HB1.out.set 0 _, by have := ownsRow_setCell_below HO2.out (a := ⟨g9, 0, none⟩) E9.out.lt (.slice a' (j + 1) c'); rw [HTK.out]; exact this⟩
      case measure => simp [intOf]; omega
    · obtain rfl : j = GX.length := by omega
      rw [List.take_length] at HOW
      have hor1 : ¬ (lx + (GX.length : Int) * st ≤ hx) := fun h => by have := hor.1 h; have := HNL.out; omega
      have hnz : 0 < GX.length := by have := HNL.out; omega
      obtain ⟨A, hA⟩ : ∃ A, lx + (GX.length : Int) * st = A := ⟨_, rfl⟩
      rw [hA] at hor1
      rw [hA]
      clear hor hA m2 hln hlt
      go_wp2_with fail
      refine world_mask (fun W => Below w.heap.size w W ∧ Blk W g4 #[.slice none 0 0, .slice none 0 0, .slice none 0 0] 107 ∧ Blk W g9 #[.slice u0 GX.length cc0, .slice none 0 0, .slice none 0 0] 107 ∧ IntsN g4 g9 W (.slice u0 GX.length cc0) GX) _ ⟨HBW.out, HSM.out.blk E4.out n49, HB9.out, IntsN.of_own HOW.out hnz (HSM.out.blk E4.out n49) HB9.out (by decide)⟩ ?_
      clear HBW HSM HB9 HOW e0 e1 e9 EB E4 E9 ES HNL hor1 hj lgs hgs9
      rintro W1 ⟨hb, b4, b9, JW0⟩
      have HB1 := Lib.hid hb
      have D41 := Lib.hid b4
      have D91 := Lib.hid b9
      have IN1_0 := Lib.hid JW0
      clear hb b4 b9 JW0
      have hM := HMP.out.1
      have rM : 0 ≤ M ∧ M ≤ 5000 * 2097153 := by rw [← hM]; exact ⟨Int.mul_nonneg (by omega) (by omega), Int.mul_le_mul hd0' (by omega) (by omega) (by omega)⟩
      have wr1 : IntKind.i64.wrap M = M := IntWalk.i64_in _ (by omega)
      cases hd1 : decide (5000 < M)
      case true =>
        have c0 : W1.cell? ⟨g4, 0, none⟩ = some (.slice none 0 0) := (D41.out.cell 0).trans rfl
        have c1 : W1.cell? ⟨g4, 1, none⟩ = some (.slice none 0 0) := (D41.out.cell 1).trans rfl
        have c2 : W1.cell? ⟨g4, 2, none⟩ = some (.slice none 0 0) := (D41.out.cell 2).trans rfl
        have f0 := D41.out.frozen 0
        have f1 := D41.out.frozen 1
        have f2 := D41.out.frozen 2
        rw [rounds_succ]
        go_wp2
        refine bodyPost_ret (v := .tuple #[.agg #[.slice none 0 0, .slice none 0 0, .slice none 0 0], .int .i64 6]) (by simp [results, Tryz.results76, go_sem, c0, c1, c2]) rfl ?_
        exact .inl ⟨by rw [HMP.out.1, hd1]; simp, rfl, ext_of (set3_below2 HB1.out l4 _ _ _ _ _ _ _)⟩
      have hd1' : M ≤ 5000 := by have := of_decide_eq_false hd1; omega
      rw [rounds_succ]
      go_wp2_with fail
      obtain ⟨gs, hgs⟩ : ∃ g, W1.heap.size = g := ⟨_, rfl⟩
      rw [hgs]
      refine world_mask (fun W => Below w.heap.size w W ∧ Blk W g4 #[.slice none 0 0, .slice none 0 0, .slice none 0 0] 107 ∧ Blk W g9 #[.slice u0 GX.length cc0, .slice none 0 0, .slice none 0 0] 107 ∧ Blk W gs #[.int .i64 ly, .int .i64 hy] 141 ∧ gs < W.heap.size ∧ IntsN g4 g9 W (.slice u0 GX.length cc0) GX) _ ⟨HB1.out.alloc HB1.out.size _, D41.out.alloc _, D91.out.alloc _, Blk.new' hgs.symm _ _, by simp only [World.size_alloc]; omega, IN1_0.out.same (SameBut.alloc (SameBut.refl _ _) _)⟩ ?_
      have hgs9 : gs ≠ g9 := by have := D91.out.lt; omega
      clear hgs
      rintro V1 ⟨hb, b4, b9, bs, lgs, JW0⟩
      have EB := Lib.hid hb
      have E4 := Lib.hid b4
      have E9 := Lib.hid b9
      have ES := Lib.hid bs
      have IV1_0 := Lib.hid JW0
      clear hb b4 b9 bs JW0
      go_loopw [13] (fun a wr => ∃ (j : Nat) (u : Value), j ≤ GY.length ∧ a = .int .i64 (ly + (j : Int) * st) ∧ Below w.heap.size w wr ∧ SameBut g9 V1 wr ∧ Blk wr g9 #[.slice u0 GX.length cc0, u, .slice none 0 0] 107 ∧ wr.ownsRow V1.heap.size 3 1 u j ((GY.take j).map (Value.int .i64))) (fun a _ => (hy + 1 - intOf a).toNat)
      case atStart => exact ⟨0, .slice none 0 0, Nat.zero_le _, by simp, EB.out, SameBut.refl _ _, E9.out, World.ownsRow_nil _ _ _ _⟩
      case round =>
        obtain ⟨j, u, hj, rfl, hbw, hsm, hb9, hown⟩ := hrel
        have HBW := Lib.hid hbw
        have HSM := Lib.hid hsm
        have HB9 := Lib.hid hb9
        have HOW := Lib.hid hown
        have hln : (GY.take j).length = j := by rw [List.length_take]; omega
        have e0 : wr.cell? ⟨gs, 0, none⟩ = some (.int .i64 ly) := ((HSM.out.blk ES.out hgs9).cell 0).trans rfl
        have e1 : wr.cell? ⟨gs, 1, none⟩ = some (.int .i64 hy) := ((HSM.out.blk ES.out hgs9).cell 1).trans rfl
        have e9 : wr.cell? ⟨g9, 1, none⟩ = some u := (HB9.out.cell 1).trans rfl
        have hor := LY.out (j : Int) (by omega)
        have HNL := Lib.hid NY.out
        obtain ⟨u1, cc1, rfl, m1, m2, -⟩ := own_shape hown
        have m3 : cc1 ≤ 9223372036854775807 := m2
        clear hbw hsm hb9 hown
        by_cases hlt : j < GY.length
        · have hor1 := hor.2 (by have := HNL.out; omega)
          have HTK := Lib.hid (TY.out j hlt)
          have hA0 : ly ≤ ly + (j : Int) * st := by have : 0 ≤ (j : Int) * st := Int.mul_nonneg (by omega) (by omega); omega
          have HST : ly + (j : Int) * st + st = ly + ((j + 1 : Nat) : Int) * st := by push_cast; rw [Int.add_mul]; omega
          have HST := Lib.hid HST
          obtain ⟨A, hA⟩ : ∃ A, ly + (j : Int) * st = A := ⟨_, rfl⟩
          rw [hA] at hor1 hA0 HST HTK
          rw [hA]
          have LN := Lib.hid hln
          have LJ : j ≤ 2097153 := by have := HNL.out; omega
          clear hor hA m2 hln
          go_wp2_with (at_builtin; refine app_own_b rfl _ _ 96 rfl 3 (.int .i64 0) 1 8 Tryz.underlying96 info_int rfl (by decide) V1.heap.size (.slice u1 j cc1) j ((GY.take j).map (Value.int .i64)) _ rfl (HOW.out.alloc _) _ 1 1 [.int .i64 A] rfl rfl (cells_new ?_ _ _ _ rfl) (by simp [Value.oneCell']) ?_ (by decide) ?_ ?_; (first | rfl | simp [size_ext]); omega; (have := HSM.out.1; simp only [World.size_alloc]; omega); intro v' w1 hown' hgrow; have B1 := (HB9.out.alloc (.cells #[.int .i64 A] 3)).grown hgrow (own_base_ne HOW.out E9.out.lt); have e' : w1.cell? ⟨g9, 1, none⟩ = some (.slice u1 j cc1) := (B1.cell 1).trans rfl; have f' := B1.frozen 1; have HB1 := Lib.hid B1; have HG := Lib.hid hgrow; have HO2 := Lib.hid (own_int1 hown'); obtain ⟨a', c', rfl, -, -, -⟩ := own_shape hown'; clear B1 hgrow hown')
          go_roundw
          case rel => exact ⟨j + 1, .slice a' (j + 1) c', by omega, by rw [HST.out], ((HBW.out.alloc HBW.out.size _).grown HG.out (by have := HBW.out.size; simp only [World.size_alloc]; omega) (fun b e => by have := own_row HOW.out b e; have := EB.out.size; omega)).setCell (p := ⟨g9, 1, none⟩) l9 _, sameBut_step HSM.out HG.out (own_row HOW.out) 1 _, HB1.out.set 1 _, by have := ownsRow_setCell_below HO2.out (a := ⟨g9, 1, none⟩) E9.out.lt (.slice a' (j + 1) c'); rw [HTK.out]; exact this⟩
          case measure => simp [intOf]; omega
        · obtain rfl : j = GY.length := by omega
          rw [List.take_length] at HOW
          have hor1 : ¬ (ly + (GY.length : Int) * st ≤ hy) := fun h => by have := hor.1 h; have := HNL.out; omega
          have hnz : 0 < GY.length := by have := HNL.out; omega
          obtain ⟨A, hA⟩ : ∃ A, ly + (GY.length : Int) * st = A := ⟨_, rfl⟩
          rw [hA] at hor1
          rw [hA]
          clear hor hA m2 hln hlt
          go_wp2_with fail
          refine world_mask (fun W => Below w.heap.size w W ∧ Blk W g4 #[.slice none 0 0, .slice none 0 0, .slice none 0 0] 107 ∧ Blk W g9 #[.slice u0 GX.length cc0, .slice u1 GY.length cc1, .slice none 0 0] 107 ∧ IntsN g4 g9 W (.slice u0 GX.length cc0) GX ∧ IntsN g4 g9 W (.slice u1 GY.length cc1) GY) _ ⟨HBW.out, HSM.out.blk E4.out n49, HB9.out, IV1_0.out.same HSM.out, IntsN.of_own HOW.out hnz (HSM.out.blk E4.out n49) HB9.out (by decide)⟩ ?_
          clear HBW HSM HB9 HOW e0 e1 e9 EB E4 E9 ES HNL hor1 hj lgs hgs9
          rintro W2 ⟨hb, b4, b9, JW0, JW1⟩
          have HB2 := Lib.hid hb
          have D42 := Lib.hid b4
          have D92 := Lib.hid b9
          have IN2_0 := Lib.hid JW0
          have IN2_1 := Lib.hid JW1
          clear hb b4 b9 JW0 JW1
          have hP := HMP.out.2
          have rP : 0 ≤ P ∧ P ≤ 5000 * 2097153 := by rw [← hP]; exact ⟨Int.mul_nonneg (by omega) (by omega), Int.mul_le_mul hd1' (by omega) (by omega) (by omega)⟩
          have wr2 : IntKind.i64.wrap P = P := IntWalk.i64_in _ (by omega)
          cases hd2 : decide (5000 < P)
          case true =>
            have c0 : W2.cell? ⟨g4, 0, none⟩ = some (.slice none 0 0) := (D42.out.cell 0).trans rfl
            have c1 : W2.cell? ⟨g4, 1, none⟩ = some (.slice none 0 0) := (D42.out.cell 1).trans rfl
            have c2 : W2.cell? ⟨g4, 2, none⟩ = some (.slice none 0 0) := (D42.out.cell 2).trans rfl
            have f0 := D42.out.frozen 0
            have f1 := D42.out.frozen 1
            have f2 := D42.out.frozen 2
            rw [rounds_succ]
            go_wp2
            refine bodyPost_ret (v := .tuple #[.agg #[.slice none 0 0, .slice none 0 0, .slice none 0 0], .int .i64 6]) (by simp [results, Tryz.results76, go_sem, c0, c1, c2]) rfl ?_
            exact .inl ⟨by rw [HMP.out.1, HMP.out.2, hd2]; simp, rfl, ext_of (set3_below2 HB2.out l4 _ _ _ _ _ _ _)⟩
          have hd2' : P ≤ 5000 := by have := of_decide_eq_false hd2; omega
          rw [rounds_succ]
          go_wp2_with fail
          obtain ⟨gs, hgs⟩ : ∃ g, W2.heap.size = g := ⟨_, rfl⟩
          rw [hgs]
          refine world_mask (fun W => Below w.heap.size w W ∧ Blk W g4 #[.slice none 0 0, .slice none 0 0, .slice none 0 0] 107 ∧ Blk W g9 #[.slice u0 GX.length cc0, .slice u1 GY.length cc1, .slice none 0 0] 107 ∧ Blk W gs #[.int .i64 lz, .int .i64 hz] 141 ∧ gs < W.heap.size ∧ IntsN g4 g9 W (.slice u0 GX.length cc0) GX ∧ IntsN g4 g9 W (.slice u1 GY.length cc1) GY) _ ⟨HB2.out.alloc HB2.out.size _, D42.out.alloc _, D92.out.alloc _, Blk.new' hgs.symm _ _, by simp only [World.size_alloc]; omega, IN2_0.out.same (SameBut.alloc (SameBut.refl _ _) _), IN2_1.out.same (SameBut.alloc (SameBut.refl _ _) _)⟩ ?_
          have hgs9 : gs ≠ g9 := by have := D92.out.lt; omega
          clear hgs
          rintro V2 ⟨hb, b4, b9, bs, lgs, JW0, JW1⟩
          have EB := Lib.hid hb
          have E4 := Lib.hid b4
          have E9 := Lib.hid b9
          have ES := Lib.hid bs
          have IV2_0 := Lib.hid JW0
          have IV2_1 := Lib.hid JW1
          clear hb b4 b9 bs JW0 JW1
          go_loopw [13] (fun a wr => ∃ (j : Nat) (u : Value), j ≤ GZ.length ∧ a = .int .i64 (lz + (j : Int) * st) ∧ Below w.heap.size w wr ∧ SameBut g9 V2 wr ∧ Blk wr g9 #[.slice u0 GX.length cc0, .slice u1 GY.length cc1, u] 107 ∧ wr.ownsRow V2.heap.size 3 1 u j ((GZ.take j).map (Value.int .i64))) (fun a _ => (hz + 1 - intOf a).toNat)
          case atStart => exact ⟨0, .slice none 0 0, Nat.zero_le _, by simp, EB.out, SameBut.refl _ _, E9.out, World.ownsRow_nil _ _ _ _⟩
          case round =>
            obtain ⟨j, u, hj, rfl, hbw, hsm, hb9, hown⟩ := hrel
            have HBW := Lib.hid hbw
            have HSM := Lib.hid hsm
            have HB9 := Lib.hid hb9
            have HOW := Lib.hid hown
            have hln : (GZ.take j).length = j := by rw [List.length_take]; omega
            have e0 : wr.cell? ⟨gs, 0, none⟩ = some (.int .i64 lz) := ((HSM.out.blk ES.out hgs9).cell 0).trans rfl
            have e1 : wr.cell? ⟨gs, 1, none⟩ = some (.int .i64 hz) := ((HSM.out.blk ES.out hgs9).cell 1).trans rfl
            have e9 : wr.cell? ⟨g9, 2, none⟩ = some u := (HB9.out.cell 2).trans rfl
            have hor := LZ.out (j : Int) (by omega)
            have HNL := Lib.hid NZ.out
            obtain ⟨u2, cc2, rfl, m1, m2, -⟩ := own_shape hown
            have m3 : cc2 ≤ 9223372036854775807 := m2
            clear hbw hsm hb9 hown
            by_cases hlt : j < GZ.length
            · have hor1 := hor.2 (by have := HNL.out; omega)
              have HTK := Lib.hid (TZ.out j hlt)
              have hA0 : lz ≤ lz + (j : Int) * st := by have : 0 ≤ (j : Int) * st := Int.mul_nonneg (by omega) (by omega); omega
              have HST : lz + (j : Int) * st + st = lz + ((j + 1 : Nat) : Int) * st := by push_cast; rw [Int.add_mul]; omega
              have HST := Lib.hid HST
              obtain ⟨A, hA⟩ : ∃ A, lz + (j : Int) * st = A := ⟨_, rfl⟩
              rw [hA] at hor1 hA0 HST HTK
              rw [hA]
              have LN := Lib.hid hln
              have LJ : j ≤ 2097153 := by have := HNL.out; omega
              clear hor hA m2 hln
              go_wp2_with (at_builtin; refine app_own_b rfl _ _ 96 rfl 3 (.int .i64 0) 1 8 Tryz.underlying96 info_int rfl (by decide) V2.heap.size (.slice u2 j cc2) j ((GZ.take j).map (Value.int .i64)) _ rfl (HOW.out.alloc _) _ 1 1 [.int .i64 A] rfl rfl (cells_new ?_ _ _ _ rfl) (by simp [Value.oneCell']) ?_ (by decide) ?_ ?_; (first | rfl | simp [size_ext]); omega; (have := HSM.out.1; simp only [World.size_alloc]; omega); intro v' w1 hown' hgrow; have B1 := (HB9.out.alloc (.cells #[.int .i64 A] 3)).grown hgrow (own_base_ne HOW.out E9.out.lt); have e' : w1.cell? ⟨g9, 2, none⟩ = some (.slice u2 j cc2) := (B1.cell 2).trans rfl; have f' := B1.frozen 2; have HB1 := Lib.hid B1; have HG := Lib.hid hgrow; have HO2 := Lib.hid (own_int1 hown'); obtain ⟨a', c', rfl, -, -, -⟩ := own_shape hown'; clear B1 hgrow hown')
              go_roundw
              case rel => exact ⟨j + 1, .slice a' (j + 1) c', by omega, by rw [HST.out], ((HBW.out.alloc HBW.out.size _).grown HG.out (by have := HBW.out.size; simp only [World.size_alloc]; omega) (fun b e => by have := own_row HOW.out b e; have := EB.out.size; omega)).setCell (p := ⟨g9, 2, none⟩) l9 _, sameBut_step HSM.out HG.out (own_row HOW.out) 2 _, HB1.out.set 2 _, by have := ownsRow_setCell_below HO2.out (a := ⟨g9, 2, none⟩) E9.out.lt (.slice a' (j + 1) c'); rw [HTK.out]; exact this⟩
              case measure => simp [intOf]; omega
            · obtain rfl : j = GZ.length := by omega
              rw [List.take_length] at HOW
              have hor1 : ¬ (lz + (GZ.length : Int) * st ≤ hz) := fun h => by have := hor.1 h; have := HNL.out; omega
              have hnz : 0 < GZ.length := by have := HNL.out; omega
              obtain ⟨A, hA⟩ : ∃ A, lz + (GZ.length : Int) * st = A := ⟨_, rfl⟩
              rw [hA] at hor1
              rw [hA]
              clear hor hA m2 hln hlt
              go_wp2_with fail
              refine world_mask (fun W => Below w.heap.size w W ∧ Blk W g4 #[.slice none 0 0, .slice none 0 0, .slice none 0 0] 107 ∧ Blk W g9 #[.slice u0 GX.length cc0, .slice u1 GY.length cc1, .slice u2 GZ.length cc2] 107 ∧ IntsN g4 g9 W (.slice u0 GX.length cc0) GX ∧ IntsN g4 g9 W (.slice u1 GY.length cc1) GY ∧ IntsN g4 g9 W (.slice u2 GZ.length cc2) GZ) _ ⟨HBW.out, HSM.out.blk E4.out n49, HB9.out, IV2_0.out.same HSM.out, IV2_1.out.same HSM.out, IntsN.of_own HOW.out hnz (HSM.out.blk E4.out n49) HB9.out (by decide)⟩ ?_
              clear HBW HSM HB9 HOW e0 e1 e9 EB E4 E9 ES HNL hor1 hj lgs hgs9
              rintro W3 ⟨hb, b4, b9, JW0, JW1, JW2⟩
              have HB3 := Lib.hid hb
              have D43 := Lib.hid b4
              have D93 := Lib.hid b9
              have IN3_0 := Lib.hid JW0
              have IN3_1 := Lib.hid JW1
              have IN3_2 := Lib.hid JW2
              clear hb b4 b9 JW0 JW1 JW2
              rw [rounds_succ]
              have c0 : W3.cell? ⟨g4, 0, none⟩ = some (.slice none 0 0) := (D43.out.cell 0).trans rfl
              have c1 : W3.cell? ⟨g4, 1, none⟩ = some (.slice none 0 0) := (D43.out.cell 1).trans rfl
              have c2 : W3.cell? ⟨g4, 2, none⟩ = some (.slice none 0 0) := (D43.out.cell 2).trans rfl
              have f0 := D43.out.frozen 0
              have f1 := D43.out.frozen 1
              have f2 := D43.out.frozen 2
              have k0 : W3.cell? ⟨g9, 0, none⟩ = some (.slice u0 GX.length cc0) := (D93.out.cell 0).trans rfl
              have k1 : W3.cell? ⟨g9, 1, none⟩ = some (.slice u1 GY.length cc1) := (D93.out.cell 1).trans rfl
              have k2 : W3.cell? ⟨g9, 2, none⟩ = some (.slice u2 GZ.length cc2) := (D93.out.cell 2).trans rfl
              go_wp2
              refine bodyPost_ret (v := .tuple #[.agg #[.slice u0 GX.length cc0, .slice u1 GY.length cc1, .slice u2 GZ.length cc2], .int .i64 0]) (by simp [results, Tryz.results76, go_sem, c0, c1, c2]) rfl ?_
              exact .inr ⟨by rw [HMP.out.1, HMP.out.2, hd0, hd1, hd2]; rfl, _, _, _, rfl, (IN3_0.out.set3 _ _ _ _ _ _).1, (IN3_1.out.set3 _ _ _ _ _ _).1, (IN3_2.out.set3 _ _ _ _ _ _).1, ext_of (set3_below HB3.out l4 _ _ _ _ _ _)⟩
        
    
end Go.Proofs.YtmoechhfjmemaaaGreat

