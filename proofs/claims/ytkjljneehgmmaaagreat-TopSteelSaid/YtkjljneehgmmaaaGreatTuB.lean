/- TopSteel: stirrupref25.Main and joint. -/
import Derived.Test.YtkjljneehgmmaaaGreatAcK6
import Derived.Test.YtkjljneehgmmaaaGreatAbK2
namespace Go.Proofs.YtkjljneehgmmaaaGreat
set_option linter.unusedVariables false
set_option linter.unusedSimpArgs false
open Go Go.RowKit
set_option maxRecDepth 20000
set_option maxHeartbeats 8000000
set_option maxRecDepth 100000

theorem below_rowB {B W : World} (h : Below B.heap.size B W) {g : Nat} (hg : B.heap.size ≤ g) (cs : Array Value) : Below B.heap.size B (W.setRow g cs) := h.trans ⟨rfl, rfl, rfl, by simp [World.setRow], fun k hk => setRow_other W g k cs (by omega)⟩
theorem blk_rowB {W : World} {g : Nat} {cs : Array Value} {t : TypeId} (h : Blk W g cs t) (cs' : Array Value) : Blk (W.setRow g cs') g cs' t := setRow_heap _ _ _ _ _ _ h
def mainV (o : Option Bx) : Value := match o with | none => .tuple #[(.agg #[.int .i64 0, .int .i64 0, .int .i64 0, .int .i64 0, .int .i64 0, .int .i64 0]), .bool false] | some g => .tuple #[(Value.agg #[.int .i64 g.lx, .int .i64 g.ly, .int .i64 g.lz, .int .i64 g.hx, .int .i64 g.hy, .int .i64 g.hz]), .bool true]
theorem refMain25_c (x : Dt) (hlaid : laidB x.l x.rs = true) (i : Int) (h0 : 0 ≤ i) (hi : i < countS x.rs) (w : World) (h : DtAt w x) :
  Calls Tryz.prog 102 #[(.agg #[.string x.q.name, x.q.u, x.q.t, .int .i64 x.q.cover, .int .i64 x.q.agg, .int .i64 x.q.poker, x.lv, x.rv, x.pv, x.dv, .int .i64 x.ru.num, .int .i64 x.ru.den, .int .i64 x.ru.pn, .int .i64 x.ru.pd, .int .i64 x.ru.bn, .int .i64 x.ru.bd, .int .i64 x.ru.ln, .int .i64 x.ru.ld, .int .i64 x.ru.least]), .int .i64 i] w (Ret w (mainV (mainI x.l x.rs i))) := by
 have HX := hd0 h
 have HL := hd0 (fun w hl hr => refLegs_c x.l x.rs x.lv x.rv i hlaid h0 hi w hl hr)
 have HM := hd0 (show mainI x.l x.rs i = (legsI x.l x.rs i).find? mainB from rfl)
 generalize legsI x.l x.rs i = L at *
 clear h hlaid h0 hi
 go_enter Tryz.func102, Tryz.ntmps102
 go_upto_region 1 with fail
 refine world_mask (fun W => Below w.heap.size w W ∧ Blk W w.heap.size (dtC x) 34 ∧ Blk W (w.heap.size + 1) #[.int .i64 0, .int .i64 0, .int .i64 0, .int .i64 0, .int .i64 0, .int .i64 0] 40) _ ⟨gro, (Blk.new _ _ _).alloc _, Blk.new' (by simp only [World.size_alloc]) _ _⟩ ?_
 rintro W1 ⟨hb1, K1, K2⟩
 have HB1 := hd0 hb1
 have HK2 := hd0 K2
 have e6 : W1.cell? ⟨w.heap.size, 6, none⟩ = some x.lv := K1.cell 6
 have e7 : W1.cell? ⟨w.heap.size, 7, none⟩ = some x.rv := K1.cell 7
 clear hb1 K1 K2
 go_upto_region 2 with (go_at_call 161; refine (HL.out _ (HX.out.l.below HB1.out) (HX.out.rs.below HB1.out)).mono ?_; rintro e W ⟨v, rfl, hown, y1, rfl⟩; have hbx := Boxes.of_own hown; clear hown)
 have HBX := hd0 hbx
 obtain ⟨a, c, rfl, -, -, h4⟩ := hbx.shape
 have H4 := hd0 h4
 clear hbx h4 e6 e7
 go_upto_region 3 with (go_at_call 162; refine (refMainLeg_c L _ _ HBX.out).mono ?_; rintro e W ⟨r, rfl, hr, y2, rfl⟩)
 have HB3 := hd0 (show Below w.heap.size w (ext (ext W1 y1) y2) from grob HB1.out)
 have HK3 := hd0 ((HK2.out.ext y1).ext y2)
 rcases hr with ⟨rfl, hn⟩ | ⟨k, hk, rfl, hs⟩
 ·have HN := hd0 hn
  clear hn
  generalize ext (ext W1 y1) y2 = W3 at *
  go_wp2_with (refine wpList_store_row rfl _ _ _ rfl (w.heap.size + 1) _ rfl rfl _ _ HK3.out rfl rfl (by simp [Value.oneCell']) ?_)
  refine bodyPost_ret (v := .tuple #[(.agg #[.int .i64 0, .int .i64 0, .int .i64 0, .int .i64 0, .int .i64 0, .int .i64 0]), .bool false]) (by simp [results, Tryz.results102, go_sem, (blk_rowB HK3.out _).cell 0, (blk_rowB HK3.out _).cell 1, (blk_rowB HK3.out _).cell 2, (blk_rowB HK3.out _).cell 3, (blk_rowB HK3.out _).cell 4, (blk_rowB HK3.out _).cell 5]) rfl ?_
  exact ⟨by rw [HM.out, HN.out]; rfl, ext_of (below_rowB HB3.out (Nat.le_add_right _ _) _)⟩
 ·obtain ⟨b0, off, rfl, hbr⟩ := H4.out k hk
  have q1 : (0 : Int) ≤ (k : Int) := by omega
  have q2 : (k : Int) < (L.length : Int) := by omega
  have d1 : decide ((k : Int) < 0) = false := by simp
  have HS := hd0 hs
  obtain ⟨b, hb⟩ : ∃ b, b = L[k] := ⟨_, rfl⟩
  have HBE := hd0 hb
  rw [← hb] at hbr
  obtain ⟨c0, c1, c2, c3, c4, c5⟩ := hbr
  have c0 := cell_ext_some c0 y2
  have c1 := cell_ext_some c1 y2
  have c2 := cell_ext_some c2 y2
  have c3 := cell_ext_some c3 y2
  have c4 := cell_ext_some c4 y2
  have c5 := cell_ext_some c5 y2
  clear hs hb
  generalize ext (ext W1 y1) y2 = W3 at *
  go_wp2_with (refine wpList_store_row rfl _ _ _ rfl (w.heap.size + 1) #[.int .i64 b.lx, .int .i64 b.ly, .int .i64 b.lz, .int .i64 b.hx, .int .i64 b.hy, .int .i64 b.hz] rfl rfl _ _ HK3.out rfl rfl (by simp [Value.oneCell']) ?_)
  refine bodyPost_ret (v := .tuple #[(Value.agg #[.int .i64 b.lx, .int .i64 b.ly, .int .i64 b.lz, .int .i64 b.hx, .int .i64 b.hy, .int .i64 b.hz]), .bool true]) (by simp [results, Tryz.results102, go_sem, (blk_rowB HK3.out _).cell 0, (blk_rowB HK3.out _).cell 1, (blk_rowB HK3.out _).cell 2, (blk_rowB HK3.out _).cell 3, (blk_rowB HK3.out _).cell 4, (blk_rowB HK3.out _).cell 5]) rfl ?_
  exact ⟨by rw [HM.out, HS.out, ← HBE.out]; rfl, ext_of (below_rowB HB3.out (Nat.le_add_right _ _) _)⟩
theorem refJoint_c (x : Dt) (hlaid : laidB x.l x.rs = true) (j : Int × Int) (w : World) (h : DtAt w x) :
  Calls Tryz.prog 54 #[(.agg #[.string x.q.name, x.q.u, x.q.t, .int .i64 x.q.cover, .int .i64 x.q.agg, .int .i64 x.q.poker, x.lv, x.rv, x.pv, x.dv, .int .i64 x.ru.num, .int .i64 x.ru.den, .int .i64 x.ru.pn, .int .i64 x.ru.pd, .int .i64 x.ru.bn, .int .i64 x.ru.bd, .int .i64 x.ru.ln, .int .i64 x.ru.ld, .int .i64 x.ru.least]), (.agg #[.int .i64 j.1, .int .i64 j.2])] w (RetP' w (LapV x.l x.rs j)) := by
 have HX := hd0 h
 have HC := hd0 (fun w h => refCount25_c x hlaid w h)
 have HMN := hd0 (fun i h0 hi w h => refMain25_c x hlaid i h0 hi w h)
 obtain ⟨n, hn⟩ : ∃ n, countS x.rs = n := ⟨_, rfl⟩
 have HN := hd0 hn
 rw [hn] at HC HMN
 obtain ⟨f, s⟩ := j
 clear h hlaid hn
 go_enter Tryz.func54, Tryz.ntmps54
 go_upto_region 1 with fail
 refine world_mask (fun W => Below w.heap.size w W ∧ Blk W w.heap.size (dtC x) 34 ∧ Blk W (w.heap.size + 1) #[.int .i64 f, .int .i64 s] 128) _ ⟨gro, (Blk.new _ _ _).alloc _, Blk.new' (by simp only [World.size_alloc]) _ _⟩ ?_
 rintro W1 ⟨hb1, K1, K2⟩
 have HB1 := hd0 hb1
 have HK1 := hd0 K1
 have HK2 := hd0 K2
 clear hb1 K1 K2
 go_upto_region 2 with (first | (refine wpList_load_row rfl _ _ rfl _ rfl _ (dtC x) _ _ HK1.out rfl rfl rfl ?_) | (go_at_call 101; refine (HC.out _ (HX.out.below HB1.out)).mono ?_; rintro e w' ⟨rfl, y1, rfl⟩))
 have HB2 := hd0 (show Below w.heap.size w (ext W1 y1) from grob HB1.out)
 have HK3 := hd0 (HK1.out.ext y1)
 have HK4 := hd0 (HK2.out.ext y1)
 clear HB1 HK1 HK2
 generalize ext W1 y1 = W2 at *
 have f0 : W2.cell? ⟨w.heap.size + 1, 0, none⟩ = some (.int .i64 f) := HK4.out.cell 0
 have f1 : W2.cell? ⟨w.heap.size + 1, 1, none⟩ = some (.int .i64 s) := HK4.out.cell 1
 by_cases r1 : f < 0
 ·have d1 : decide (f < 0) = true := by simpa using r1
  go_wp2
  go_ret
  exact ⟨false, rfl, fun h => (by cases h), ext_of (grob HB2.out)⟩
 have d1 : decide (f < 0) = false := by simpa using r1
 by_cases r2 : n ≤ f
 ·have d2 : decide (n ≤ f) = true := by simpa using r2
  clear r1
  go_wp2
  go_ret
  exact ⟨false, rfl, fun h => (by cases h), ext_of (grob HB2.out)⟩
 have d2 : decide (n ≤ f) = false := by simpa using r2
 by_cases r3 : s < 0
 ·have d3 : decide (s < 0) = true := by simpa using r3
  clear r1 r2
  go_wp2
  go_ret
  exact ⟨false, rfl, fun h => (by cases h), ext_of (grob HB2.out)⟩
 have d3 : decide (s < 0) = false := by simpa using r3
 by_cases r4 : n ≤ s
 ·have d4 : decide (n ≤ s) = true := by simpa using r4
  clear r1 r2 r3
  go_wp2
  go_ret
  exact ⟨false, rfl, fun h => (by cases h), ext_of (grob HB2.out)⟩
 have d4 : decide (n ≤ s) = false := by simpa using r4
 have HR := hd0 (show (0 ≤ f ∧ f < n) ∧ 0 ≤ s ∧ s < n by omega)
 have HMF := hd0 (HMN.out f HR.out.1.1 HR.out.1.2)
 have HMS := hd0 (HMN.out s HR.out.2.1 HR.out.2.2)
 clear r1 r2 r3 r4
 obtain ⟨A, hA⟩ : ∃ A, mainI x.l x.rs f = A := ⟨_, rfl⟩
 obtain ⟨B, hB⟩ : ∃ B, mainI x.l x.rs s = B := ⟨_, rfl⟩
 have HA := hd0 hA
 have HB := hd0 hB
 rw [hA] at HMF
 rw [hB] at HMS
 clear hA hB HMN
 obtain ⟨a, ia, ea⟩ : ∃ (a : Bx) (ia : Bool), mainV A = .tuple #[(Value.agg #[.int .i64 a.lx, .int .i64 a.ly, .int .i64 a.lz, .int .i64 a.hx, .int .i64 a.hy, .int .i64 a.hz]), .bool ia] := by cases A <;> exact ⟨⟨_, _, _, _, _, _⟩, _, rfl⟩
 obtain ⟨b, ib, eb⟩ : ∃ (b : Bx) (ib : Bool), mainV B = .tuple #[(Value.agg #[.int .i64 b.lx, .int .i64 b.ly, .int .i64 b.lz, .int .i64 b.hx, .int .i64 b.hy, .int .i64 b.hz]), .bool ib] := by cases B <;> exact ⟨⟨_, _, _, _, _, _⟩, _, rfl⟩
 have HEA := hd0 ea
 have HEB := hd0 eb
 rw [ea] at HMF
 rw [eb] at HMS
 clear ea eb
 go_upto_region 4 with fail
 clear d1 d2 d3 d4
 go_upto_region 5 with (first | (refine wpList_load_row rfl _ _ rfl _ rfl _ (dtC x) _ _ HK3.out rfl rfl rfl ?_) | (go_at_call 102; refine (HMF.out _ (HX.out.below HB2.out)).mono ?_; rintro e w' ⟨rfl, y2, rfl⟩))
 refine world_mask (fun W => Below w.heap.size w W ∧ Blk W w.heap.size (dtC x) 34 ∧ Blk W (w.heap.size + 1) #[.int .i64 f, .int .i64 s] 128 ∧ Blk W (W2.heap.size + y2.heap.size) #[.int .i64 a.lx, .int .i64 a.ly, .int .i64 a.lz, .int .i64 a.hx, .int .i64 a.hy, .int .i64 a.hz] 40) _ ⟨grob HB2.out, (HK3.out.ext y2).alloc _, (HK4.out.ext y2).alloc _, Blk.new' (by rw [size_ext]) _ _⟩ ?_
 generalize W2.heap.size + y2.heap.size = ga
 clear f0 f1 HK3 HK4 HB2
 rintro W3 ⟨hb1, K1, K2, K3⟩
 have HB3 := hd0 hb1
 have HK1 := hd0 K1
 have HK2 := hd0 K2
 have HK3 := hd0 K3
 have f1 : W3.cell? ⟨w.heap.size + 1, 1, none⟩ = some (.int .i64 s) := K2.cell 1
 clear hb1 K1 K2 K3
 go_upto_region 6 with (first | (refine wpList_load_row rfl _ _ rfl _ rfl _ (dtC x) _ _ HK1.out rfl rfl rfl ?_) | (go_at_call 102; refine (HMS.out _ (HX.out.below HB3.out)).mono ?_; rintro e w' ⟨rfl, y3, rfl⟩))
 refine world_mask (fun W => Below w.heap.size w W ∧ Blk W ga #[.int .i64 a.lx, .int .i64 a.ly, .int .i64 a.lz, .int .i64 a.hx, .int .i64 a.hy, .int .i64 a.hz] 40 ∧ Blk W (W3.heap.size + y3.heap.size) #[.int .i64 b.lx, .int .i64 b.ly, .int .i64 b.lz, .int .i64 b.hx, .int .i64 b.hy, .int .i64 b.hz] 40) _ ⟨grob HB3.out, (HK3.out.ext y3).alloc _, Blk.new' (by rw [size_ext]) _ _⟩ ?_
 generalize W3.heap.size + y3.heap.size = gb
 clear f1 HK1 HK2 HK3 HB3
 rintro W4 ⟨hb1, K1, K2⟩
 have HB4 := hd0 hb1
 have c0 : W4.cell? ⟨ga, 0, none⟩ = some (.int .i64 a.lx) := K1.cell 0
 have c3 : W4.cell? ⟨ga, 3, none⟩ = some (.int .i64 a.hx) := K1.cell 3
 have g0 : W4.cell? ⟨gb, 0, none⟩ = some (.int .i64 b.lx) := K2.cell 0
 have g3 : W4.cell? ⟨gb, 3, none⟩ = some (.int .i64 b.hx) := K2.cell 3
 clear hb1 K1 K2
 cases ia
 ·go_wp2
  go_ret
  exact ⟨false, rfl, fun h => (by cases h), ext_of (grob HB4.out)⟩
 cases ib
 ·go_wp2
  go_ret
  exact ⟨false, rfl, fun h => (by cases h), ext_of (grob HB4.out)⟩
 cases e1 : decide (a.lx < b.lx)
 ·go_wp2
  go_ret
  exact ⟨false, rfl, fun h => (by cases h), ext_of (grob HB4.out)⟩
 cases e2 : decide (a.hx < b.hx)
 ·go_wp2
  go_ret
  exact ⟨false, rfl, fun h => (by cases h), ext_of (grob HB4.out)⟩
 cases e3 : decide (b.lx ≤ a.hx)
 ·go_wp2
  go_ret
  exact ⟨false, rfl, fun h => (by cases h), ext_of (grob HB4.out)⟩
 have HV := hd0 (show LapV x.l x.rs (f, s) from by
  have main_of : ∀ (o : Option Bx) (g : Bx), mainV o = .tuple #[(Value.agg #[.int .i64 g.lx, .int .i64 g.ly, .int .i64 g.lz, .int .i64 g.hx, .int .i64 g.hy, .int .i64 g.hz]), .bool true] → o = some g := by
   intro o g e
   cases o with
   | none => unfold mainV at e; simp at e
   | some q => obtain ⟨lx, ly, lz, hx, hy, hz⟩ := q; obtain ⟨gx, gy, gz, ix, iy, iz⟩ := g; unfold mainV at e; simp at e; simp [e]
  refine ⟨by rw [HN.out]; exact HR.out.1, by rw [HN.out]; exact HR.out.2, a, b, ?_, ?_, by simpa using e1, by simpa using e2, by simpa using e3⟩
  ·show mainI x.l x.rs f = _; rw [HA.out]; exact main_of _ _ HEA.out
  ·show mainI x.l x.rs s = _; rw [HB.out]; exact main_of _ _ HEB.out)
 go_wp2
 go_ret
 exact ⟨true, rfl, fun _ => HV.out, ext_of (grob HB4.out)⟩
end Go.Proofs.YtkjljneehgmmaaaGreat
