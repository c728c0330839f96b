/- ClaA, ClaB, ClaC in one text. -/
import Derived.Test.YtkjljneehgmmaaaGreatAaK5
import Derived.Test.YtkjljneehgmmaaaGreatBoxK2
import Derived.Test.YtkjljneehgmmaaaGreatAaK7
import Derived.Test.YtkjljneehgmmaaaGreatCovK1
import Derived.Test.YtkjljneehgmmaaaGreatAbK8
import Derived.Test.YtkjljneehgmmaaaGreatExtK
import Derived.RegionTactic
import Derived.Deep.DeepCutAuto
import Derived.Test.YtkjljneehgmmaaaGreatAbK3
namespace Go.Proofs.YtkjljneehgmmaaaGreat
open Go.RowKit
set_option maxRecDepth 20000
set_option maxHeartbeats 8000000

def Nums (w : World) (v : Value) (l : List Int) : Prop :=
 ∃ a cap, v = .slice a l.length cap ∧ l.length ≤ cap ∧ cap ≤ 9223372036854775807 ∧ ∀ i (h : i < l.length), ∃ b off, a = some ⟨b, off, none⟩ ∧ w.cell? ⟨b, off + i, none⟩ = some (.int .i64 l[i])
theorem Nums.below {w w' : World} {v : Value} {l : List Int} (h : Nums w v l) (hb : Below w.heap.size w w') : Nums w' v l := by
 obtain ⟨x, rfl⟩ := ext_of hb
 obtain ⟨a, cap, h1, h2, h3, h4⟩ := h
 exact ⟨a, cap, h1, h2, h3, fun i hi => let ⟨b, off, e, hc⟩ := h4 i hi; ⟨b, off, e, cell_ext_some hc x⟩⟩
def Bxss (w : World) (v : Value) (l : List (List Bx)) : Prop :=
 ∃ a cap, v = .slice a l.length cap ∧ l.length ≤ cap ∧ cap ≤ 9223372036854775807 ∧ ∀ i (h : i < l.length), ∃ b off u, a = some ⟨b, off, none⟩ ∧ w.cell? ⟨b, off + i, none⟩ = some u ∧ Boxes w u l[i]
theorem Bxss.below {w w' : World} {v : Value} {l : List (List Bx)} (h : Bxss w v l) (hb : Below w.heap.size w w') : Bxss w' v l := by
 obtain ⟨x, rfl⟩ := ext_of hb
 obtain ⟨a, cap, h1, h2, h3, h4⟩ := h
 exact ⟨a, cap, h1, h2, h3, fun i hi => let ⟨b, off, u, e, hc, hu⟩ := h4 i hi; ⟨b, off, u, e, cell_ext_some hc x, hu.ext x⟩⟩
def SpAt (w : World) (p : Nat) (A : List (List Bx)) (S : List Int) : Prop := ∃ lv sv, Blk w p #[lv, sv] 162 ∧ Bxss w lv A ∧ Nums w sv S
theorem SpAt.below {w w' : World} {p : Nat} {A : List (List Bx)} {S : List Int} (h : SpAt w p A S) (hb : Below w.heap.size w w') : SpAt w' p A S := by
 obtain ⟨lv, sv, h1, h2, h3⟩ := h
 exact ⟨lv, sv, h1.below hb, h2.below hb, h3.below hb⟩

def sqStep (m n : Int) : Int := if m < 0 ∨ n < m then n else m
def sqRow (m : Int) (a : Bx) (B : List Bx) : Int := B.foldl (fun m b => sqStep m (squareI a b)) m
def sqI (A B : List Bx) : Int := A.foldl (fun m a => sqRow m a B) (-1)
theorem sqRow_succ (m : Int) (a : Bx) {B : List Bx} {j : Nat} (h : j < B.length) : sqRow m a (B.take (j + 1)) = sqStep (sqRow m a (B.take j)) (squareI a B[j]) := by
 unfold sqRow
 rw [List.take_succ_eq_append_getElem h, List.foldl_append]; rfl
theorem sqI_succ {A : List Bx} (B : List Bx) {k : Nat} (h : k < A.length) : sqI (A.take (k + 1)) B = sqRow (sqI (A.take k) B) A[k] B := by
 unfold sqI
 rw [List.take_succ_eq_append_getElem h, List.foldl_append]; rfl
theorem along_in {a b : Bx} (ha : validB a = true) (hb : validB b = true) (k : Int) : 0 ≤ max 0 (alongI a b k) ∧ max 0 (alongI a b k) ≤ 2097152 := by
 have h1 := valid_iff.1 ha
 have h2 := valid_iff.1 hb
 unfold alongI Bx.lo Bx.hi
 (repeat' split) <;> omega
theorem square_in {a b : Bx} (ha : validB a = true) (hb : validB b = true) : 0 ≤ squareI a b ∧ squareI a b ≤ 13194139533312 := by
 have key : ∀ k, 0 ≤ max 0 (alongI a b k) * max 0 (alongI a b k) ∧ max 0 (alongI a b k) * max 0 (alongI a b k) ≤ 4398046511104 := fun k => by
  obtain ⟨h1, h2⟩ := along_in ha hb k
  exact ⟨Int.mul_nonneg h1 h1, Int.le_trans (Int.mul_le_mul h2 h2 h1 (by omega)) (by decide)⟩
 have k0 := key 0
 have k1 := key 1
 have k2 := key 2
 unfold squareI
 omega
theorem sqStep_in {m n : Int} (hm : -1 ≤ m ∧ m ≤ 13194139533312) (hn : 0 ≤ n ∧ n ≤ 13194139533312) : -1 ≤ sqStep m n ∧ sqStep m n ≤ 13194139533312 := by
 unfold sqStep; split <;> omega
theorem sqRow_in {m : Int} {a : Bx} {B : List Bx} (hm : -1 ≤ m ∧ m ≤ 13194139533312) (ha : validB a = true) (hB : ∀ b ∈ B, validB b = true) : -1 ≤ sqRow m a B ∧ sqRow m a B ≤ 13194139533312 := by
 unfold sqRow
 induction B generalizing m with
 | nil => exact hm
 | cons b B ih => exact ih (sqStep_in hm (square_in ha (hB b List.mem_cons_self))) (fun x hx => hB x (List.mem_cons_of_mem _ hx))
theorem sqI_in' {A B : List Bx} {m : Int} (hm : -1 ≤ m ∧ m ≤ 13194139533312) (hA : ∀ b ∈ A, validB b = true) (hB : ∀ b ∈ B, validB b = true) : -1 ≤ A.foldl (fun m a => sqRow m a B) m ∧ A.foldl (fun m a => sqRow m a B) m ≤ 13194139533312 := by
 induction A generalizing m with
 | nil => exact hm
 | cons a A ih => exact ih (sqRow_in hm (hA a List.mem_cons_self) hB) (fun x hx => hA x (List.mem_cons_of_mem _ hx))
theorem sqI_in {A B : List Bx} (hA : ∀ b ∈ A, validB b = true) (hB : ∀ b ∈ B, validB b = true) : -1 ≤ sqI A B ∧ sqI A B ≤ 13194139533312 := sqI_in' ⟨by decide, by decide⟩ hA hB

def RetSq (w : World) (n : Int) (e : Ending) (W : World) : Prop := ∃ a b c a' b' c' : Int, e = .returned (.tuple #[.int .i64 n, (Value.agg #[.int .i64 a, .int .i64 b, .int .i64 c]), (Value.agg #[.int .i64 a', .int .i64 b', .int .i64 c'])]) ∧ ∃ x, W = ext w x
structure SqJ (w : World) (g7 g8 : Nat) (W : World) : Prop where
 below : Below w.heap.size w W
 h7 : w.heap.size ≤ g7
 h8 : w.heap.size ≤ g8
 ne : g7 ≠ g8
 b7 : ∃ a b c : Int, Blk W g7 #[.int .i64 a, .int .i64 b, .int .i64 c] 38
 b8 : ∃ a b c : Int, Blk W g8 #[.int .i64 a, .int .i64 b, .int .i64 c] 38
theorem SqJ.grow {w W W' : World} {g7 g8 : Nat} (h : SqJ w g7 g8 W) (hb : Below W.heap.size W W') : SqJ w g7 g8 W' :=
 ⟨h.below.trans (hb.mono h.below.size), h.h7, h.h8, h.ne, let ⟨a, b, c, k⟩ := h.b7; ⟨a, b, c, k.below hb⟩, let ⟨a, b, c, k⟩ := h.b8; ⟨a, b, c, k.below hb⟩⟩

theorem SqJ.put {w W : World} {g7 g8 : Nat} (h : SqJ w g7 g8 W) (a b c a' b' c' : Int) : SqJ w g7 g8 ((((((W.setCell ⟨g7, 0, none⟩ (.int .i64 a)).setCell ⟨g7, 1, none⟩ (.int .i64 b)).setCell ⟨g7, 2, none⟩ (.int .i64 c)).setCell ⟨g8, 0, none⟩ (.int .i64 a')).setCell ⟨g8, 1, none⟩ (.int .i64 b')).setCell ⟨g8, 2, none⟩ (.int .i64 c')) := by
 obtain ⟨p0, p1, p2, hp⟩ := h.b7
 obtain ⟨q0, q1, q2, hq⟩ := h.b8
 exact ⟨(((((h.below.setCell h.h7 _).setCell h.h7 _).setCell h.h7 _).setCell h.h8 _).setCell h.h8 _).setCell h.h8 _, h.h7, h.h8, h.ne, ⟨a, b, c, (((((hp.set 0 _).set 1 _).set 2 _).other h.ne _).other h.ne _).other h.ne _⟩, ⟨a', b', c', (((((hq.other h.ne.symm _).other h.ne.symm _).other h.ne.symm _).set 0 _).set 1 _).set 2 _⟩⟩
theorem blk_drew {w : World} {k : Nat} {cs : Array Value} {t : TypeId} (h : Blk w k cs t) : Blk w.drew k cs t := h
theorem put_blks0 {W : World} {g7 g8 : Nat} {x y z x' y' z' : Value} (hp : Blk W g7 #[x, y, z] 38) (hq : Blk W g8 #[x', y', z'] 38) (ne : g7 ≠ g8) (a b c a' b' c' : Int) : Blk (((((((W.setCell ⟨g7, 0, none⟩ (.int .i64 a)).setCell ⟨g7, 1, none⟩ (.int .i64 b)).setCell ⟨g7, 2, none⟩ (.int .i64 c)).setCell ⟨g8, 0, none⟩ (.int .i64 a')).setCell ⟨g8, 1, none⟩ (.int .i64 b')).setCell ⟨g8, 2, none⟩ (.int .i64 c'))) g7 #[.int .i64 a, .int .i64 b, .int .i64 c] 38 ∧ Blk (((((((W.setCell ⟨g7, 0, none⟩ (.int .i64 a)).setCell ⟨g7, 1, none⟩ (.int .i64 b)).setCell ⟨g7, 2, none⟩ (.int .i64 c)).setCell ⟨g8, 0, none⟩ (.int .i64 a')).setCell ⟨g8, 1, none⟩ (.int .i64 b')).setCell ⟨g8, 2, none⟩ (.int .i64 c'))) g8 #[.int .i64 a', .int .i64 b', .int .i64 c'] 38 := by
 refine ⟨?_, ?_⟩
 ·exact (((((hp.set 0 _).set 1 _).set 2 _).other ne _).other ne _).other ne _
 ·exact (((((hq.other ne.symm _).other ne.symm _).other ne.symm _).set 0 _).set 1 _).set 2 _
theorem put_blks {W : World} {g7 g8 : Nat} {x y z x' y' z' : Value} (hp : Blk W g7 #[x, y, z] 38) (hq : Blk W g8 #[x', y', z'] 38) (ne : g7 ≠ g8) (a b c a' b' c' : Int) : Blk (World.drew ((((((W.setCell ⟨g7, 0, none⟩ (.int .i64 a)).setCell ⟨g7, 1, none⟩ (.int .i64 b)).setCell ⟨g7, 2, none⟩ (.int .i64 c)).setCell ⟨g8, 0, none⟩ (.int .i64 a')).setCell ⟨g8, 1, none⟩ (.int .i64 b')).setCell ⟨g8, 2, none⟩ (.int .i64 c'))) g7 #[.int .i64 a, .int .i64 b, .int .i64 c] 38 ∧ Blk (World.drew ((((((W.setCell ⟨g7, 0, none⟩ (.int .i64 a)).setCell ⟨g7, 1, none⟩ (.int .i64 b)).setCell ⟨g7, 2, none⟩ (.int .i64 c)).setCell ⟨g8, 0, none⟩ (.int .i64 a')).setCell ⟨g8, 1, none⟩ (.int .i64 b')).setCell ⟨g8, 2, none⟩ (.int .i64 c'))) g8 #[.int .i64 a', .int .i64 b', .int .i64 c'] 38 :=
 have h := put_blks0 hp hq ne a b c a' b' c'
 ⟨blk_drew h.1, blk_drew h.2⟩
structure SqK (w : World) (g7 g8 g10 : Nat) (a : Bx) (W : World) : Prop where
 j : SqJ w g7 g8 W
 h7 : g10 ≠ g7
 h8 : g10 ≠ g8
 b10 : Blk W g10 #[.int .i64 a.lx, .int .i64 a.ly, .int .i64 a.lz, .int .i64 a.hx, .int .i64 a.hy, .int .i64 a.hz] 40
theorem SqK.grow {w W W' : World} {g7 g8 g10 : Nat} {a : Bx} (h : SqK w g7 g8 g10 a W) (hb : Below W.heap.size W W') : SqK w g7 g8 g10 a W' := ⟨h.j.grow hb, h.h7, h.h8, h.b10.below hb⟩
theorem SqK.put {w W : World} {g7 g8 g10 : Nat} {x : Bx} (h : SqK w g7 g8 g10 x W) (a b c a' b' c' : Int) : SqK w g7 g8 g10 x ((((((W.setCell ⟨g7, 0, none⟩ (.int .i64 a)).setCell ⟨g7, 1, none⟩ (.int .i64 b)).setCell ⟨g7, 2, none⟩ (.int .i64 c)).setCell ⟨g8, 0, none⟩ (.int .i64 a')).setCell ⟨g8, 1, none⟩ (.int .i64 b')).setCell ⟨g8, 2, none⟩ (.int .i64 c')) :=
 ⟨h.j.put a b c a' b' c', h.h7, h.h8, (((((h.b10.other h.h7 _).other h.h7 _).other h.h7 _).other h.h8 _).other h.h8 _).other h.h8 _⟩
theorem sqStep_lt {m n : Int} (h : m < 0 ∨ n < m) : sqStep m n = n := if_pos h
theorem sqStep_ge {m n : Int} (h1 : ¬ m < 0) (h2 : ¬ n < m) : sqStep m n = m := if_neg (by omega)

set_option maxRecDepth 100000 in
theorem square_c (A : List (List Bx)) (S : List Int) (p i k : Nat) (hi : i < A.length) (hk : k < A.length) (hv : ∀ l ∈ A, ∀ b ∈ l, validB b = true) (w : World) (hs : SpAt w p A S) :
  Calls Tryz.prog 77 #[.pointer (some ⟨p, 0, none⟩), .int .i64 i, .int .i64 k] w (RetSq w (sqI A[i] A[k])) := by
 obtain ⟨lv, sv, hp, ⟨la, lc, rfl, -, hlc, hcell⟩, -⟩ := hs
 obtain ⟨bl, ol, ui, rfl, cui, hui⟩ := hcell i hi
 obtain ⟨bl', ol', uk, e', cuk, huk⟩ := hcell k hk
 cases e'
 have hvi := hv _ (List.getElem_mem hi)
 have hvk := hv _ (List.getElem_mem hk)
 have i1 : (0 : Int) ≤ (i : Int) := by omega
 have i2 : (i : Int) < (A.length : Int) := by omega
 have k1 : (0 : Int) ≤ (k : Int) := by omega
 have k2 : (k : Int) < (A.length : Int) := by omega
 clear hcell hv
 generalize A[i] = X at *
 generalize A[k] = Y at *
 clear hi hk
 generalize A.length = n at *
 obtain ⟨xa, xc, rfl, hx2, hx3, hx4⟩ := hui.shape
 obtain ⟨ya, yc, rfl, hy2, hy3, hy4⟩ := huk.shape
 have HX4 := hd0 hx4
 have HY4 := hd0 hy4
 have HVX := hd0 (fun k (h : k < X.length) => hvi _ (List.getElem_mem h))
 have HVY := hd0 (fun k (h : k < Y.length) => hvk _ (List.getElem_mem h))
 have HP := hd0 hp
 have HCI := hd0 cui
 have HCK := hd0 cuk
 have HLX := hd0 (show X.length ≤ 9223372036854775807 by omega)
 have HLY := hd0 (show Y.length ≤ 9223372036854775807 by omega)
 have p0 : w.cell? ⟨p, 0, none⟩ = some (.slice (some ⟨bl, ol, none⟩) n lc) := hp.cell 0
 clear hp hui huk hx4 hy4 hvi hvk hx2 hy2
 go_enter Tryz.func77, Tryz.ntmps77
 go_upto_region 2 with fail
 refine world_mask (fun W => SqJ w w.heap.size (w.heap.size + 1) W) _ ⟨gro, Nat.le_refl _, by omega, by omega, ⟨0, 0, 0, (Blk.new _ _ _).alloc _⟩, ⟨0, 0, 0, Blk.new' (by simp only [World.size_alloc]) _ _⟩⟩ ?_
 intro W0 hj
 have HJ0 := hd0 hj
 have p1 : W0.cell? ⟨p, 0, none⟩ = some (.slice (some ⟨bl, ol, none⟩) n lc) := (HP.out.below hj.below).cell 0
 have q1 : W0.cell? ⟨bl, ol + i, none⟩ = some (.slice xa X.length xc) := by obtain ⟨x, rfl⟩ := ext_of hj.below; exact cell_ext_some HCI.out x
 clear hj p0
 go_wp2_with fail
 go_loopw [23, 6] (fun i m wr => ∃ k : Nat, k ≤ X.length ∧ i = .int .i64 k ∧ m = .int .i64 (sqI (X.take k) Y) ∧ SqJ w w.heap.size (w.heap.size + 1) wr) (fun i _ _ => X.length - (intOf i).toNat)
 case atStart => exact ⟨0, Nat.zero_le _, rfl, rfl, HJ0.out⟩
 case round =>
  clear p1 q1 HJ0
  obtain ⟨W1, rfl⟩ : ∃ W : World, W = wr := ⟨_, rfl⟩
  obtain ⟨a, ha, rfl, rfl, hj⟩ := hrel
  have HJ := hd0 hj
  by_cases hlt : a < X.length
  ·have a1 : (0 : Int) ≤ (a : Int) := by omega
   have a2 : (a : Int) < (X.length : Int) := by omega
   have hlx := HLX.out
   obtain ⟨bx, ox, rfl, hbx⟩ := HX4.out a hlt
   have hva := HVX.out a hlt
   have HSU := hd0 (sqI_succ Y hlt)
   obtain ⟨A1, hA1⟩ : ∃ c, X[a] = c := ⟨_, rfl⟩
   rw [hA1] at hbx hva HSU
   obtain ⟨y, ey⟩ := ext_of hj.below
   have hbx2 := hbx.ext y
   rw [← ey] at hbx2
   obtain ⟨c0, c1, c2, c3, c4, c5⟩ := hbx2
   have p1 : W1.cell? ⟨p, 0, none⟩ = some (.slice (some ⟨bl, ol, none⟩) n lc) := (HP.out.below hj.below).cell 0
   have q1 : W1.cell? ⟨bl, ol + k, none⟩ = some (.slice ya Y.length yc) := by rw [ey]; exact cell_ext_some HCK.out y
   have HVA := hd0 hva
   have hm0 : SqJ w w.heap.size (w.heap.size + 1) (W1.alloc (.cells #[.int .i64 A1.lx, .int .i64 A1.ly, .int .i64 A1.lz, .int .i64 A1.hx, .int .i64 A1.hy, .int .i64 A1.hz] 40)) := hj.grow (grow_alloc _ (grow_refl _))
   have HM0 := hd0 hm0
   obtain ⟨M, hM⟩ : ∃ M, sqI (X.take a) Y = M := ⟨_, rfl⟩
   rw [hM] at HSU ⊢
   clear hbx hva hA1 ey hj hm0 hM
   go_upto_region 6 with fail
   refine world_mask (fun W => ∃ g10, g10 = W1.heap.size ∧ SqK w w.heap.size (w.heap.size + 1) g10 A1 W) _ ⟨_, rfl, HM0.out, ?_, ?_, Blk.new _ _ _⟩ ?_
   ·obtain ⟨_, _, _, h⟩ := HJ.out.b7
    exact Nat.ne_of_gt h.lt
   ·obtain ⟨_, _, _, h⟩ := HJ.out.b8
    exact Nat.ne_of_gt h.lt
   clear c0 c1 c2 c3 c4 c5 p1 q1 HM0 HJ
   rintro W2 ⟨g10, hg10, hk⟩
   rw [← hg10]
   have HK0 := hd0 hk
   clear hk hg10
   go_loopw [35, 6] (fun i m wr => ∃ j : Nat, j ≤ Y.length ∧ i = .int .i64 j ∧ m = .int .i64 (sqRow M A1 (Y.take j)) ∧ SqK w w.heap.size (w.heap.size + 1) g10 A1 wr) (fun i _ _ => Y.length - (intOf i).toNat)
   case atStart => exact ⟨0, Nat.zero_le _, rfl, rfl, HK0.out⟩
   case round =>
    clear HK0
    obtain ⟨W3, rfl⟩ : ∃ W : World, W = wr := ⟨_, rfl⟩
    obtain ⟨j, hj, rfl, rfl, hk⟩ := hrel
    have HK := hd0 hk
    by_cases hlj : j < Y.length
    ·have j1 : (0 : Int) ≤ (j : Int) := by omega
     have j2 : (j : Int) < (Y.length : Int) := by omega
     have hly := HLY.out
     obtain ⟨by', oy, rfl, hby⟩ := HY4.out j hlj
     have hvb := HVY.out j hlj
     have HSR := hd0 (sqRow_succ M A1 hlj)
     obtain ⟨B1, hB1⟩ : ∃ c, Y[j] = c := ⟨_, rfl⟩
     rw [hB1] at hby hvb HSR
     obtain ⟨y, ey⟩ := ext_of hk.j.below
     have hby2 := hby.ext y
     rw [← ey] at hby2
     obtain ⟨c0, c1, c2, c3, c4, c5⟩ := hby2
     have e0 : W3.cell? ⟨g10, 0, none⟩ = some (.int .i64 A1.lx) := hk.b10.cell 0
     have e1 : W3.cell? ⟨g10, 1, none⟩ = some (.int .i64 A1.ly) := hk.b10.cell 1
     have e2 : W3.cell? ⟨g10, 2, none⟩ = some (.int .i64 A1.lz) := hk.b10.cell 2
     have e3 : W3.cell? ⟨g10, 3, none⟩ = some (.int .i64 A1.hx) := hk.b10.cell 3
     have e4 : W3.cell? ⟨g10, 4, none⟩ = some (.int .i64 A1.hy) := hk.b10.cell 4
     have e5 : W3.cell? ⟨g10, 5, none⟩ = some (.int .i64 A1.hz) := hk.b10.cell 5
     have HSQ := hd0 (fun w => Square_ok A1 B1 HVA.out hvb w)
     have HNE := hd0 (fun w => by have h := Nearest_ok A1 B1 HVA.out hvb w; unfold nearV at h; exact h)
     obtain ⟨m, hm⟩ : ∃ m, sqRow M A1 (Y.take j) = m := ⟨_, rfl⟩
     obtain ⟨n', hn⟩ : ∃ n, squareI A1 B1 = n := ⟨_, rfl⟩
     rw [hm, hn] at HSR
     rw [hn] at HSQ
     rw [hm]
     clear hby hvb hB1 ey hk hm hn
     by_cases hc : m < 0 ∨ n' < m
     ·have HST := hd0 (sqStep_lt hc)
      have hd : decide (m < 0) = true ∨ decide (m < 0) = false ∧ decide (n' < m) = true := by
       by_cases h : m < 0
       ·left; simpa using h
       ·right; exact ⟨by simpa using h, by simp; omega⟩
      clear hc
      rcases hd with d1 | ⟨d1, d2⟩
      all_goals
       go_wp2_with fail
       go_at_call 133; refine (HSQ.out _).mono ?_; rintro e w' ⟨rfl, z1, rfl⟩
       go_wp2_with fail
       go_at_call 134; refine (HNE.out _).mono ?_; rintro e w' ⟨rfl, z2, rfl⟩
       have hk2 := HK.out.grow (W' := ext (ext (W3.alloc (.cells #[.int .i64 B1.lx, .int .i64 B1.ly, .int .i64 B1.lz, .int .i64 B1.hx, .int .i64 B1.hy, .int .i64 B1.hz] 40)) z1) z2) gro
       have HK2 := hd0 hk2
       obtain ⟨_, _, _, hb7⟩ := hk2.j.b7
       obtain ⟨_, _, _, hb8⟩ := hk2.j.b8
       clear hk2
       have f0 := hb7.frozen 0
       have f1 := hb7.frozen 1
       have f2 := hb7.frozen 2
       have f3 := hb8.frozen 0
       have f4 := hb8.frozen 1
       have f5 := hb8.frozen 2
       obtain ⟨_, g0⟩ : ∃ z, (ext (ext (W3.alloc (.cells #[.int .i64 B1.lx, .int .i64 B1.ly, .int .i64 B1.lz, .int .i64 B1.hx, .int .i64 B1.hy, .int .i64 B1.hz] 40)) z1) z2).cell? ⟨w.heap.size, 0, none⟩ = some z := ⟨_, (hb7.cell 0).trans rfl⟩
       obtain ⟨_, g1⟩ : ∃ z, (ext (ext (W3.alloc (.cells #[.int .i64 B1.lx, .int .i64 B1.ly, .int .i64 B1.lz, .int .i64 B1.hx, .int .i64 B1.hy, .int .i64 B1.hz] 40)) z1) z2).cell? ⟨w.heap.size, 1, none⟩ = some z := ⟨_, (hb7.cell 1).trans rfl⟩
       obtain ⟨_, g2⟩ : ∃ z, (ext (ext (W3.alloc (.cells #[.int .i64 B1.lx, .int .i64 B1.ly, .int .i64 B1.lz, .int .i64 B1.hx, .int .i64 B1.hy, .int .i64 B1.hz] 40)) z1) z2).cell? ⟨w.heap.size, 2, none⟩ = some z := ⟨_, (hb7.cell 2).trans rfl⟩
       obtain ⟨_, g3⟩ : ∃ z, (ext (ext (W3.alloc (.cells #[.int .i64 B1.lx, .int .i64 B1.ly, .int .i64 B1.lz, .int .i64 B1.hx, .int .i64 B1.hy, .int .i64 B1.hz] 40)) z1) z2).cell? ⟨w.heap.size + 1, 0, none⟩ = some z := ⟨_, (hb8.cell 0).trans rfl⟩
       obtain ⟨_, g4⟩ : ∃ z, (ext (ext (W3.alloc (.cells #[.int .i64 B1.lx, .int .i64 B1.ly, .int .i64 B1.lz, .int .i64 B1.hx, .int .i64 B1.hy, .int .i64 B1.hz] 40)) z1) z2).cell? ⟨w.heap.size + 1, 1, none⟩ = some z := ⟨_, (hb8.cell 1).trans rfl⟩
       obtain ⟨_, g5⟩ : ∃ z, (ext (ext (W3.alloc (.cells #[.int .i64 B1.lx, .int .i64 B1.ly, .int .i64 B1.lz, .int .i64 B1.hx, .int .i64 B1.hy, .int .i64 B1.hz] 40)) z1) z2).cell? ⟨w.heap.size + 1, 2, none⟩ = some z := ⟨_, (hb8.cell 2).trans rfl⟩
       clear hb7 hb8
       generalize ext (ext (W3.alloc (.cells #[.int .i64 B1.lx, .int .i64 B1.ly, .int .i64 B1.lz, .int .i64 B1.hx, .int .i64 B1.hy, .int .i64 B1.hz] 40)) z1) z2 = W4 at *
       clear c0 c1 c2 c3 c4 c5 e0 e1 e2 e3 e4 e5
       go_wp2
       go_roundw
       case rel => exact ⟨j + 1, by omega, by go_num, by rw [HSR.out, HST.out], HK2.out.put _ _ _ _ _ _⟩
       case measure => simp [intOf]; omega
     ·have d1 : decide (m < 0) = false := by simp; omega
      have d2 : decide (n' < m) = false := by simp; omega
      have HST := hd0 (sqStep_ge (fun h => hc (.inl h)) (fun h => hc (.inr h)))
      clear hc
      go_wp2_with fail
      go_at_call 133; refine (HSQ.out _).mono ?_; rintro e w' ⟨rfl, z1, rfl⟩
      go_wp2
      go_roundw
      case rel => exact ⟨j + 1, by omega, by go_num, by rw [HSR.out, HST.out], HK.out.grow gro⟩
      case measure => simp [intOf]; omega
    ·obtain rfl : j = Y.length := by omega
     rw [List.take_length]
     have HJ2 := hd0 hk.j
     clear hk
     go_wp2
     go_roundw
     case rel => exact ⟨a + 1, by omega, by go_num, by rw [HSU.out], HJ2.out⟩
     case measure => simp [intOf]; omega
  ·obtain rfl : a = X.length := by omega
   rw [List.take_length]
   obtain ⟨p0, p1, p2, hb7⟩ := hj.b7
   obtain ⟨q0, q1, q2, hb8⟩ := hj.b8
   have hne := hj.ne
   have f0 : W1.frozen? ⟨w.heap.size, 0, none⟩ = false := hb7.frozen 0
   have f1 : W1.frozen? ⟨w.heap.size, 1, none⟩ = false := hb7.frozen 1
   have f2 : W1.frozen? ⟨w.heap.size, 2, none⟩ = false := hb7.frozen 2
   have f3 : W1.frozen? ⟨w.heap.size + 1, 0, none⟩ = false := hb8.frozen 0
   have f4 : W1.frozen? ⟨w.heap.size + 1, 1, none⟩ = false := hb8.frozen 1
   have f5 : W1.frozen? ⟨w.heap.size + 1, 2, none⟩ = false := hb8.frozen 2
   have g0 : W1.cell? ⟨w.heap.size, 0, none⟩ = some (.int .i64 p0) := hb7.cell 0
   have g1 : W1.cell? ⟨w.heap.size, 1, none⟩ = some (.int .i64 p1) := hb7.cell 1
   have g2 : W1.cell? ⟨w.heap.size, 2, none⟩ = some (.int .i64 p2) := hb7.cell 2
   have g3 : W1.cell? ⟨w.heap.size + 1, 0, none⟩ = some (.int .i64 q0) := hb8.cell 0
   have g4 : W1.cell? ⟨w.heap.size + 1, 1, none⟩ = some (.int .i64 q1) := hb8.cell 1
   have g5 : W1.cell? ⟨w.heap.size + 1, 2, none⟩ = some (.int .i64 q2) := hb8.cell 2
   have HB7 := hd0 hb7
   have HB8 := hd0 hb8
   clear hj hb7 hb8 hlt
   go_wp2_with fail
   go_region
   generalize hW : World.drew ((((((W1.setCell ⟨w.heap.size, 0, none⟩ (.int .i64 p0)).setCell ⟨w.heap.size, 1, none⟩ (.int .i64 p1)).setCell ⟨w.heap.size, 2, none⟩ (.int .i64 p2)).setCell ⟨w.heap.size + 1, 0, none⟩ (.int .i64 q0)).setCell ⟨w.heap.size + 1, 1, none⟩ (.int .i64 q1)).setCell ⟨w.heap.size + 1, 2, none⟩ (.int .i64 q2)) = W6
   have hb : Below w.heap.size w W6 := by rw [← hW]; exact (HJ.out.put p0 p1 p2 q0 q1 q2).below.drew
   have h7 : Blk W6 w.heap.size #[.int .i64 p0, .int .i64 p1, .int .i64 p2] 38 := by rw [← hW]; exact (put_blks HB7.out HB8.out hne p0 p1 p2 q0 q1 q2).1
   have h8 : Blk W6 (w.heap.size + 1) #[.int .i64 q0, .int .i64 q1, .int .i64 q2] 38 := by rw [← hW]; exact (put_blks HB7.out HB8.out hne p0 p1 p2 q0 q1 q2).2
   clear f0 f1 f2 f3 f4 f5 g0 g1 g2 g3 g4 g5 HB7 HB8 HJ hW
   have g0 : W6.cell? ⟨w.heap.size, 0, none⟩ = some (.int .i64 p0) := h7.cell 0
   have g1 : W6.cell? ⟨w.heap.size, 1, none⟩ = some (.int .i64 p1) := h7.cell 1
   have g2 : W6.cell? ⟨w.heap.size, 2, none⟩ = some (.int .i64 p2) := h7.cell 2
   have g3 : W6.cell? ⟨w.heap.size + 1, 0, none⟩ = some (.int .i64 q0) := h8.cell 0
   have g4 : W6.cell? ⟨w.heap.size + 1, 1, none⟩ = some (.int .i64 q1) := h8.cell 1
   have g5 : W6.cell? ⟨w.heap.size + 1, 2, none⟩ = some (.int .i64 q2) := h8.cell 2
   have HB := hd0 hb
   clear hb h7 h8
   go_wp2
   refine bodyPost_ret (v := .tuple #[.int .i64 (sqI X Y), (Value.agg #[.int .i64 p0, .int .i64 p1, .int .i64 p2]), (Value.agg #[.int .i64 q0, .int .i64 q1, .int .i64 q2])]) (by simp [results, Tryz.results77, go_sem, g0, g1, g2, g3, g4, g5]) rfl ?_
   exact ⟨_, _, _, _, _, _, rfl, ext_of HB.out⟩


theorem info_bxs : (Tryz.prog.info? 22).map (fun i => (i.zero, i.size, i.bytes)) = some (some (.slice none 0 0), 1, 24) := by kernel_rfl
theorem info_int1 : (Tryz.prog.info? 3).map (fun i => (i.zero, i.size, i.bytes)) = some (some (.int .i64 0), 1, 8) := by kernel_rfl
theorem repF {n k : Nat} (h : k < n) : (Array.replicate n false).getD k true = false := by simp [Array.getD, h]
theorem rw_ok2 {kL kB kA kS kL' kB' kA' kS' G off G' off' n n' : Nat} {c c' : Array Value} {a a' : Value} {xs news xs' news' : List Value} (h : ([kL, kB, kA, kS, kL', kB', kA', kS'] : List Nat).Nodup) : Rw.ok ⟨kL, kB, kA, kS, G, off, c, a, n, xs, news⟩ ⟨kL', kB', kA', kS', G', off', c', a', n', xs', news'⟩ := by
 simp only [List.nodup_cons, List.mem_cons, List.not_mem_nil, or_false, not_or] at h
 obtain ⟨⟨a1, a2, a3, a4, a5, a6, a7⟩, ⟨b2, b3, b4, b5, b6, b7⟩, ⟨c3, c4, c5, c6, c7⟩, ⟨d4, d5, d6, d7⟩, -⟩ := h
 refine ⟨⟨a1, a2, a3, b2, b3, c3⟩, fun k hk => ?_⟩
 simp only [Rw.ks, List.mem_cons, List.not_mem_nil, or_false] at hk ⊢
 rcases hk with rfl | rfl | rfl | rfl <;> omega
theorem SzMap.lt {g : Br → Int} {w : World} {b n : Nat} {l : List Br} (h : SzMap g w b n l) : b < w.heap.size := by
 obtain ⟨D, h1, -⟩ := h
 exact h1.lt
theorem SzMap.same {g : Br → Int} {w w' : World} {b n : Nat} {l : List Br} (h : SzMap g w b n l) (e : w'.heap[b]? = w.heap[b]?) : SzMap g w' b n l := by
 obtain ⟨D, ⟨es, clock, h1, h2⟩, h3⟩ := h
 exact ⟨D, ⟨es, clock, e.trans h1, h2⟩, h3⟩
theorem own_map {W : World} {base s n gM m : Nat} {e : TypeId} {v : Value} {xs : List Value} {g : Br → Int} {l : List Br} (h : W.ownsRow base e s v n xs) (hm : SzMap g W gM m l) : v.ownBlock ≠ some gM := by
 obtain ⟨D, ⟨es, clock, h1, -⟩, -⟩ := hm
 rcases h.2 with ⟨rfl, -⟩ | ⟨g', cap, cur, rfl, -, g1, -⟩
 ·simp [Value.ownBlock]
 ·intro q
  simp only [Value.ownBlock, Option.some.injEq] at q
  subst q
  rw [h1] at g1
  cases g1
def legsTo (l : List Br) (rs : List Rn) (n : Nat) : List (List Bx) := (List.range n).map fun i : Nat => legsI l rs i
def sizesTo (l : List Br) (rs : List Rn) (n : Nat) : List Int := (List.range n).map fun i : Nat => sizeI l rs i
theorem legsTo_length (l : List Br) (rs : List Rn) (n : Nat) : (legsTo l rs n).length = n := by simp [legsTo]
theorem sizesTo_length (l : List Br) (rs : List Rn) (n : Nat) : (sizesTo l rs n).length = n := by simp [sizesTo]
theorem sizesTo_succ (l : List Br) (rs : List Rn) (n : Nat) : sizesTo l rs (n + 1) = sizesTo l rs n ++ [sizeI l rs n] := by simp [sizesTo, List.range_succ]
structure OfJ (w : World) (gM g : Nat) (l : List Br) (rs : List Rn) (k : Nat) (a a' : Value) (vals : List Value) (W : World) : Prop where
 below : Below w.heap.size w W
 hM : w.heap.size ≤ gM
 hg : w.heap.size ≤ g
 ne : gM ≠ g
 map : SzMap sizeF W gM l.length l
 blk : Blk W g #[a, a'] 162
 r1 : W.ownsRow w.heap.size 22 1 a k vals
 r2 : W.ownsRow w.heap.size 3 1 a' k ((sizesTo l rs k).map (Value.int .i64))
 legs : ∀ i, i < k → W.ownsRow w.heap.size 40 6 (vals.getD i undef) (legsI l rs i).length (boxCells (legsI l rs i))
theorem own_lies {w w' : World} {base : Nat} {e : TypeId} {s : Nat} {v : Value} {n : Nat} {xs : List Value} (h : w.ownsRow base e s v n xs) (hs : ∀ b, v.ownBlock = some b → w'.heap[b]? = w.heap[b]?) : w'.ownsRow base e s v n xs := by
 refine ⟨h.1, ?_⟩
 rcases h.2 with h | ⟨g, cap, cur, rfl, h2, h3, h4⟩
 ·exact .inl h
 ·exact .inr ⟨g, cap, cur, rfl, h2, by rw [hs g rfl]; exact h3, h4⟩
theorem own_grow {w w' : World} {base : Nat} {e : TypeId} {s : Nat} {v : Value} {n : Nat} {xs : List Value} (h : w.ownsRow base e s v n xs) (hb : Below w.heap.size w w') : w'.ownsRow base e s v n xs :=
 own_lies h fun b q => hb.block b (h.lt b q).2
theorem OfJ.grow {w W W' : World} {gM g : Nat} {l : List Br} {rs : List Rn} {k : Nat} {a a' : Value} {vals : List Value} (h : OfJ w gM g l rs k a a' vals W) (hb : Below W.heap.size W W') : OfJ w gM g l rs k a a' vals W' := by
 have hg : W.grownBy W' none := ⟨hb.os, hb.tape, hb.output, hb.size, fun k hk _ => hb.block k hk⟩
 exact ⟨h.below.trans (hb.mono h.below.size), h.hM, h.hg, h.ne, h.map.below hb, h.blk.below hb, h.r1.kept hg (by cases a.ownBlock <;> simp), h.r2.kept hg (by cases a'.ownBlock <;> simp), fun i hi => (h.legs i hi).kept hg (by cases (vals.getD i undef).ownBlock <;> simp)⟩
theorem OfJ.next {w W1 W : World} {gM g : Nat} {l : List Br} {rs : List Rn} {k : Nat} {a a' : Value} {vals : List Value} (h : OfJ w gM g l rs k a a' vals W1) {lv : Value} (hl : W1.ownsRow w.heap.size 40 6 lv (legsI l rs k).length (boxCells (legsI l rs k)))
  {r r' : Rw} {L : Array Bool} {vs : List Value} (hD : DAq 22 3 162 1 1 w.heap.size W1 g (fun a b => #[a, b]) r r' L vs W) (e1 : r.a = a ∧ r.n = k ∧ r.xs = vals ∧ r.news = [lv]) (e2 : r'.a = a' ∧ r'.n = k ∧ r'.xs = (sizesTo l rs k).map (Value.int .i64) ∧ r'.news = [.int .i64 (sizeI l rs k)])
  (hA : L.getD r.kA true = true) (hS : L.getD r.kS true = true) (hA' : L.getD r'.kA true = true) (hS' : L.getD r'.kS true = true) (hn : vals.length = k) : OfJ w gM g l rs (k + 1) (vs.getD r.kA undef) (vs.getD r'.kA undef) (vals ++ [lv]) W := by
 obtain ⟨g1, g2, g3, g4⟩ := e1
 obtain ⟨q1, q2, q3, q4⟩ := e2
 have hfr : ∀ b, b < W1.heap.size → b ≠ g → a.ownBlock ≠ some b → a'.ownBlock ≠ some b → W.heap[b]? = W1.heap[b]? := fun b h1 h2 h3 h4 => hD.frame b h1 h2 (by rw [g1]; exact h3) (by rw [q1]; exact h4)
 have hbox : ∀ (v : Value) n xs, W1.ownsRow w.heap.size 40 6 v n xs → W.ownsRow w.heap.size 40 6 v n xs := fun v n xs x => own_lies x fun b hb => hfr b (x.lt b hb).2 (fun e => h.blk.ne_row x (by decide) (by rw [hb, e])) (fun e => by
   rcases own_ne h.r1 x (by decide) with q | q
   ·rw [q] at e; cases e
   ·exact q (e.trans hb.symm)) (fun e => by
   rcases own_ne h.r2 x (by decide) with q | q
   ·rw [q] at e; cases e
   ·exact q (e.trans hb.symm))
 have hs := h.below.size
 have hg0 := h.hg
 refine ⟨⟨hD.os.trans h.below.os, hD.tape.trans h.below.tape, hD.output.trans h.below.output, Nat.le_trans hs hD.size, fun b hb => ?_⟩, h.hM, h.hg, h.ne, h.map.same (hfr gM h.map.lt h.ne (own_map h.r1 h.map) (own_map h.r2 h.map)), ?_, ?_, ?_, fun i hi => ?_⟩
 ·rw [hfr b (Nat.lt_of_lt_of_le hb hs) (by omega) (fun e => by have := (h.r1.lt b e).1; omega) (fun e => by have := (h.r2.lt b e).1; omega)]
  exact h.below.block b hb
 ·have := hD.blk
  unfold Rw.st at this
  rw [if_pos hS, if_pos hS'] at this
  exact this
 ·have := hD.r1.row1 hA
  rw [g2, g3, g4] at this
  exact this
 ·have := hD.r2.row1 hA'
  rw [q2, q3, q4] at this
  rw [sizesTo_succ, List.map_append]
  exact this
 ·by_cases hk : i < k
  ·rw [List.getD_eq_getElem?_getD, List.getElem?_append_left (by omega), ← List.getD_eq_getElem?_getD]
   exact hbox _ _ _ (h.legs i hk)
  ·obtain rfl : i = k := by omega
   rw [List.getD_eq_getElem?_getD, List.getElem?_append_right (by omega), hn, Nat.sub_self]
   exact hbox lv _ _ hl
theorem OfJ.space {w W : World} {gM g : Nat} {l : List Br} {rs : List Rn} {k : Nat} {a a' : Value} {vals : List Value} (h : OfJ w gM g l rs k a a' vals W) : SpAt W g (legsTo l rs k) (sizesTo l rs k) := by
 have hn : vals.length = k := by have := h.r1.1; omega
 obtain ⟨b, d, rfl, h1, h2, h3⟩ := own_shape h.r1
 obtain ⟨b', d', rfl, h1', h2', h3'⟩ := own_shape h.r2
 refine ⟨_, _, h.blk, ⟨b, d, by rw [legsTo_length], by rw [legsTo_length]; exact h1, h2, fun i hi => ?_⟩, ⟨b', d', by rw [sizesTo_length], by rw [sizesTo_length]; exact h1', h2', fun i hi => ?_⟩⟩
 ·rw [legsTo_length] at hi
  obtain ⟨gb, e, -, hc⟩ := h3 (by omega)
  refine ⟨gb, 0, vals.getD i undef, e, ?_, ?_⟩
  ·rw [Nat.zero_add, hc i (by omega)]
   simp [List.getD, hn, hi]
  ·have : (legsTo l rs k)[i]'(by rw [legsTo_length]; exact hi) = legsI l rs i := by simp [legsTo]
   rw [this]
   exact Boxes.of_own (h.legs i hi)
 ·rw [sizesTo_length] at hi
  obtain ⟨gb, e, -, hc⟩ := h3' (by omega)
  refine ⟨gb, 0, e, ?_⟩
  rw [Nat.zero_add, hc i (by omega)]
  simp [sizesTo, hi]
def RetSp (w : World) (l : List Br) (rs : List Rn) (e : Ending) (W : World) : Prop := ∃ p, e = .returned (.tuple #[.pointer (some ⟨p, 0, none⟩), .int .i64 0]) ∧ SpAt W p (legsTo l rs (countS rs).toNat) (sizesTo l rs (countS rs).toNat) ∧ ∃ x, W = ext w x

set_option maxRecDepth 100000 in
set_option maxHeartbeats 16000000 in
theorem spaceOf_c (l : List Br) (rs : List Rn) (v u : Value) (hv : laidB l rs = true) (w : World) (hl : Bars w v l) (hr : Runs w u rs) : Calls Tryz.prog 76 #[v, u] w (RetSp w l rs) := by
 obtain ⟨va, vc, rfl, h2, h3, h4⟩ := hl.shape
 obtain ⟨ua, uc, rfl, -, -, -⟩ := hr.shape
 have HL := hd0 hl
 have HR := hd0 hr
 have H4 := hd0 h4
 have HV := hd0 hv
 have hs := (laidB_iff.1 hv).1
 have HS := hd0 (schedB_shape hs)
 have hlen60 : l.length ≤ 60 := by
  unfold schedB at hs
  simp only [Bool.and_eq_true, decide_eq_true_iff] at hs
  exact hs.1
 have HC := hd0 (fun w hl hr => count_c l rs (.slice va l.length vc) (.slice ua rs.length uc) w hl hr)
 rw [show countE l rs = (countS rs, 0) by unfold countE; rw [if_pos hv]] at HC
 have hcn := (count_le hv 0).2
 have hc0 : 0 ≤ countS rs ∧ countS rs ≤ 2000 := by
  have := count_le hv rs.length
  rw [List.take_length] at this
  omega
 obtain ⟨N, hN⟩ : ∃ N : Nat, countS rs = (N : Int) := ⟨(countS rs).toNat, by omega⟩
 have HN0 := hd0 hN
 rw [hN] at HC hc0
 have hmm := @run_makeMap Tryz.prog
 clear hl hr h4 hv hs hcn hN
 go_enter Tryz.func76, Tryz.ntmps76
 go_wp2_with fail
 go_at_call 44; refine (HC.out _ (HL.out.below gro) (HR.out.below gro)).mono ?_; rintro e w' ⟨rfl, x1, rfl⟩
 go_upto_region 5 with fail
 obtain ⟨gM, hgM⟩ : ∃ g, g = (ext w x1).heap.size := ⟨_, rfl⟩
 have hgw : w.heap.size ≤ gM := by rw [hgM, size_ext]; omega
 simp only [size_ext] at hgM
 rw [← hgM]
 refine world_mask (fun W => Below w.heap.size w W ∧ SzMap sizeF W gM 0 []) _ ⟨gro, ?_⟩ ?_
 ·have := SzMap.made sizeF (ext w x1)
  rw [size_ext, ← hgM] at this
  exact this
 clear hgM hmm
 rintro W0 ⟨hb0, hm0⟩
 go_wp2_with fail
 go_loopw [28] (fun i wr => ∃ k : Nat, k ≤ l.length ∧ i = .int .i64 k ∧ Below w.heap.size w wr ∧ SzMap sizeF wr gM k (l.take k)) (fun i _ => l.length - (intOf i).toNat)
 case atStart => exact ⟨0, by omega, rfl, hb0, hm0⟩
 case round =>
  clear hb0 hm0
  obtain ⟨k, hk, rfl, hb, hm⟩ := hrel
  have HB := hd0 hb
  have HM := hd0 hm
  by_cases hlt : k < l.length
  ·obtain ⟨hok, b0, off, rfl, hbr⟩ := H4.out k hlt
   have q1 : (0 : Int) ≤ (k : Int) := by omega
   have q2 : (k : Int) < (l.length : Int) := by omega
   have hsz := (shape_facts (HS.out _ (List.getElem_mem hlt))).2.2.1
   have htk : l.take (k + 1) = l.take k ++ [l[k]] := List.take_succ_eq_append_getElem hlt
   obtain ⟨b, hbl⟩ : ∃ b, l[k] = b := ⟨_, rfl⟩
   rw [hbl] at hok hbr hsz htk
   obtain ⟨y, ey⟩ := ext_of hb
   have hbr2 := hbr.ext y
   rw [← ey] at hbr2
   obtain ⟨c0, c1, c2, c3, c4⟩ := hbr2
   obtain ⟨ad, cd, ev, _, _, _⟩ := hok.dims
   have hns := hok.mark
   obtain ⟨mark, size, count, code, dims, dv⟩ := b
   simp only at ev c0 c1 c2 c3 c4 hsz hns
   subst ev
   have HTK := hd0 htk
   have hwf := size_wf hsz
   have HSI := hd0 hsz
   obtain ⟨D, m1, m2, m3⟩ := hm
   have M1 := hd0 (show (wr.alloc (.cells #[.string mark, .int .i64 size, .int .i64 count, .int .i64 code, .slice ad dims.length cd] 81)).ownsMap Tryz.prog 9 (plainElem Tryz.prog 3) gM k D from m1.kept (row := none) (World.grownBy_alloc _ _ none) (by simp))
   have M2 := hd0 m2
   have M3 := hd0 m3
   have hml := m1.lt
   clear hok hbr hsz htk hbl ey hb m1 m2 m3
   go_wp2_with (at_mapUpdate; refine wpList_mapUpdate_own _ rfl _ _ _ 215 rfl 9 3 marks_law Tryz.underlying215 _ gM k D rfl M1.out (by unfold maxLen; omega) _ _ (.string mark.data.toList) rfl rfl (WideMaps.keyOf_string_mk Tryz.underlying9 (by unfold maxLen; exact hns)) (.lit (.int .i64 size)) [] (plainElem_int Tryz.underlying3 hwf) ?_; intro w2 hown2 hgrow2; have HG2 := hd0 hgrow2; have HN2 := hd0 (SzMap.put (g := sizeF) (f := ⟨mark, size, count, code, dims, .slice ad dims.length cd⟩) M2.out M3.out hown2); clear hgrow2 hown2)
   go_roundw
   case rel => exact ⟨k + 1, by omega, by go_num, (HB.out.alloc HB.out.size _).grown HG2.out (by have := HB.out.size; simp only [World.size_alloc]; omega) (fun j e => by cases e; exact hgw), by rw [HTK.out]; exact HN2.out⟩
   case measure => simp [intOf]; omega
  ·obtain rfl : k = l.length := by omega
   rw [List.take_length] at HM
   clear hb hm
   obtain ⟨W1, rfl⟩ : ∃ W : World, W = wr := ⟨_, rfl⟩
   go_upto_region 11 with fail
   refine world_mask (fun W => ∃ g, g = W1.heap.size ∧ OfJ w gM g l rs 0 (.slice none 0 0) (.slice none 0 0) [] W) _ ⟨_, rfl, HB.out.alloc HB.out.size _, hgw, HB.out.size, Nat.ne_of_lt HM.out.lt, HM.out.below (grow_alloc _ (grow_refl _)), Blk.new _ _ _, World.ownsRow_nil _ _ _ _, World.ownsRow_nil _ _ _ _, fun i hi => absurd hi (Nat.not_lt_zero _)⟩ ?_
   rintro W2 ⟨g11, hg11, hj⟩
   rw [← hg11]
   have HJ0 := hd0 hj
   clear hj hg11 HB HM
   go_wp2_with fail
   go_loopw [41] (fun i wr => ∃ (k : Nat) (a a' : Value) (vals : List Value), k ≤ N ∧ i = .int .i64 k ∧ OfJ w gM g11 l rs k a a' vals wr) (fun i _ => N - (intOf i).toNat)
   case atStart => exact ⟨0, _, _, _, Nat.zero_le _, rfl, HJ0.out⟩
   case round =>
    clear HJ0
    obtain ⟨wa, rfl⟩ : ∃ W : World, W = wr := ⟨_, rfl⟩
    obtain ⟨k, a, a', vals, hkN, rfl, hj⟩ := hrel
    obtain ⟨b1, d1, rfl, -, -, -⟩ := own_shape hj.r1
    obtain ⟨b2, d2, rfl, -, -, -⟩ := own_shape hj.r2
    have HCN := hd0 (show vals.length = k by have := hj.r1.1; omega)
    have HJ := hd0 hj
    by_cases hlt : k < N
    ·have q1 : (0 : Int) ≤ (k : Int) := by omega
     have q2 : (k : Int) < (N : Int) := by omega
     have q3 : (k : Int) < countS rs := by rw [HN0.out]; exact q2
     obtain ⟨g1, g2, r0, g3, g4⟩ := mark_of HV.out q1 q3
     have HLG := hd0 (fun w hl hr => legsLaid_c l rs (.slice va l.length vc) (.slice ua rs.length uc) k w hl hr)
     rw [show legsE l rs k = (legsI l rs k, 0) by unfold legsE; rw [if_pos HV.out, if_pos ⟨q1, q3⟩]] at HLG
     have HMK := hd0 (fun w hl hr => mark_v l rs (.slice va l.length vc) (.slice ua rs.length uc) k _ _ g1 (by omega) w hl hr)
     have HMS := hd0 (mark_small HV.out HR.out q1 q3)
     have HSZ := hd0 (show szOf sizeF l (markI rs k).data.toList = sizeI l rs k from szOf_find sizeF (laidB_iff.1 HV.out).1 g2)
     have HLB := hd0 (HL.out.below hj.below)
     have HRB := hd0 (HR.out.below hj.below)
     clear g1 g2 g3 g4 hj
     go_wp2_with fail
     go_at_call 65; refine (HLG.out _ (HLB.out.below gro) (HRB.out.below gro)).mono ?_; rintro e w' ⟨v15, rfl, hown15, y1, rfl⟩
     obtain ⟨a15, c15, rfl, -, -, -⟩ := own_shape hown15
     have HO15 := hd0 (own_mono (base' := w.heap.size) hown15 HJ.out.below.size)
     clear hown15
     go_wp2_with fail
     go_at_call 64; refine (HMK.out _ (HLB.out.below gro) (HRB.out.below gro)).mono ?_; rintro e w' ⟨rfl, y2, rfl⟩
     go_upto_region 20 with fail
     refine world_mask (fun W => OfJ w gM g11 l rs k (.slice b1 k d1) (.slice b2 k d2) vals W ∧ W.ownsRow w.heap.size 40 6 (.slice a15 (legsI l rs k).length c15) (legsI l rs k).length (boxCells (legsI l rs k))) _ ⟨HJ.out.grow gro, own_grow HO15.out gro⟩ ?_
     clear HJ HO15
     rintro W2 ⟨hj2, ho2⟩
     have HOJ := hd0 hj2
     have HLR := hd0 ho2
     clear hj2 ho2
     obtain ⟨LG, hLG⟩ : ∃ LG, legsI l rs k = LG := ⟨_, rfl⟩
     obtain ⟨MK, hMK⟩ : ∃ MK, markI rs k = MK := ⟨_, rfl⟩
     obtain ⟨SZ, hSZ⟩ : ∃ SZ, sizeI l rs k = SZ := ⟨_, rfl⟩
     rw [hMK] at HMS HSZ
     rw [hSZ] at HSZ
     rw [hLG, hMK]
     have HLG2 := hd0 hLG
     have HSZ2 := hd0 hSZ
     clear hLG hMK hSZ
     have hok : Rw.ok (⟨5, 7, 8, 20, 0, 0, #[], .slice b1 k d1, k, vals, [.slice a15 LG.length c15]⟩ : Rw) (⟨12, 16, 17, 23, 0, 0, #[], .slice b2 k d2, k, (sizesTo l rs k).map (Value.int .i64), [.int .i64 SZ]⟩ : Rw) := rw_ok2 (by decide)
     have hok2 : Rw.ok (⟨12, 16, 17, 23, 0, 0, #[], .slice b2 k d2, k, (sizesTo l rs k).map (Value.int .i64), [.int .i64 SZ]⟩ : Rw) (⟨5, 7, 8, 20, 0, 0, #[], .slice b1 k d1, k, vals, [.slice a15 LG.length c15]⟩ : Rw) := rw_ok2 (by decide)
     have hpart : PartG [5, 7, 8, 20, 12, 16, 17, 23] (DAq 22 3 162 1 1 w.heap.size W2 g11 (fun a b => #[a, b]) (⟨5, 7, 8, 20, 0, 0, #[], .slice b1 k d1, k, vals, [.slice a15 LG.length c15]⟩ : Rw) (⟨12, 16, 17, 23, 0, 0, #[], .slice b2 k d2, k, (sizesTo l rs k).map (Value.int .i64), [.int .i64 SZ]⟩ : Rw)) := (show PartG (Rw.ks (⟨5, 7, 8, 20, 0, 0, #[], .slice b1 k d1, k, vals, [.slice a15 LG.length c15]⟩ : Rw) ++ Rw.ks (⟨12, 16, 17, 23, 0, 0, #[], .slice b2 k d2, k, (sizesTo l rs k).map (Value.int .i64), [.int .i64 SZ]⟩ : Rw)) (DAq 22 3 162 1 1 w.heap.size W2 g11 (fun a b => #[a, b]) (⟨5, 7, 8, 20, 0, 0, #[], .slice b1 k d1, k, vals, [.slice a15 LG.length c15]⟩ : Rw) (⟨12, 16, 17, 23, 0, 0, #[], .slice b2 k d2, k, (sizesTo l rs k).map (Value.int .i64), [.int .i64 SZ]⟩ : Rw)) from DAq.part)
     have HPART := hd0 hpart
     clear hpart
     refine wp_region_G [.pointer (some ⟨g11, 0, none⟩), .pointer (some ⟨g11, 0, none⟩), .pointer (some ⟨g11, 0, none⟩), .pointer (some ⟨g11, 0, none⟩), .pointer (some ⟨g11, 0, none⟩), undef, .slice a15 LG.length c15, undef, undef, .pointer (some ⟨g11, 0, none⟩), .pointer (some ⟨g11, 0, none⟩), .pointer (some ⟨g11, 1, none⟩), undef, .map (some gM), .string MK, .int .i64 SZ, undef, undef, .pointer (some ⟨g11, 0, none⟩), .pointer (some ⟨g11, 0, none⟩), undef, .pointer (some ⟨g11, 0, none⟩), .pointer (some ⟨g11, 1, none⟩), undef] [5, 7, 8, 20, 12, 16, 17, 23] (DAq 22 3 162 1 1 w.heap.size W2 g11 (fun a b => #[a, b]) (⟨5, 7, 8, 20, 0, 0, #[], .slice b1 k d1, k, vals, [.slice a15 LG.length c15]⟩ : Rw) (⟨12, 16, 17, 23, 0, 0, #[], .slice b2 k d2, k, (sizesTo l rs k).map (Value.int .i64), [.int .i64 SZ]⟩ : Rw)) (by kernel_rfl) (by kernel_rfl) ?_ ?_ ?_
     ·intro vs hlen
      refine DAq.init (fun k hk => repF ?_) HOJ.out.r1 HOJ.out.r2 HOJ.out.blk
      have hk' : k ∈ ([5, 7, 8, 20, 12, 16, 17, 23] : List Nat) := hk
      simp only [List.mem_cons, List.not_mem_nil, or_false] at hk'
      show k < 24
      omega
     ·intro L vs W i hlen hJ hi
      obtain ⟨x0, vs0, rfl, hlen0⟩ := len_cons hlen
      obtain ⟨x1, vs1, rfl, hlen1⟩ := len_cons hlen0
      obtain ⟨x2, vs2, rfl, hlen2⟩ := len_cons hlen1
      obtain ⟨x3, vs3, rfl, hlen3⟩ := len_cons hlen2
      obtain ⟨x4, vs4, rfl, hlen4⟩ := len_cons hlen3
      obtain ⟨x5, vs5, rfl, hlen5⟩ := len_cons hlen4
      obtain ⟨x6, vs6, rfl, hlen6⟩ := len_cons hlen5
      obtain ⟨x7, vs7, rfl, hlen7⟩ := len_cons hlen6
      obtain ⟨x8, vs8, rfl, hlen8⟩ := len_cons hlen7
      obtain ⟨x9, vs9, rfl, hlen9⟩ := len_cons hlen8
      obtain ⟨x10, vs10, rfl, hlen10⟩ := len_cons hlen9
      obtain ⟨x11, vs11, rfl, hlen11⟩ := len_cons hlen10
      obtain ⟨x12, vs12, rfl, hlen12⟩ := len_cons hlen11
      obtain ⟨x13, vs13, rfl, hlen13⟩ := len_cons hlen12
      obtain ⟨x14, vs14, rfl, hlen14⟩ := len_cons hlen13
      obtain ⟨x15, vs15, rfl, hlen15⟩ := len_cons hlen14
      obtain ⟨x16, vs16, rfl, hlen16⟩ := len_cons hlen15
      obtain ⟨x17, vs17, rfl, hlen17⟩ := len_cons hlen16
      obtain ⟨x18, vs18, rfl, hlen18⟩ := len_cons hlen17
      obtain ⟨x19, vs19, rfl, hlen19⟩ := len_cons hlen18
      obtain ⟨x20, vs20, rfl, hlen20⟩ := len_cons hlen19
      obtain ⟨x21, vs21, rfl, hlen21⟩ := len_cons hlen20
      obtain ⟨x22, vs22, rfl, hlen22⟩ := len_cons hlen21
      obtain ⟨x23, vs23, rfl, hlen23⟩ := len_cons hlen22
      obtain rfl := len_nil hlen23
      clear hlen hlen0 hlen1 hlen2 hlen3 hlen4 hlen5 hlen6 hlen7 hlen8 hlen9 hlen10 hlen11 hlen12 hlen13 hlen14 hlen15 hlen16 hlen17 hlen18 hlen19 hlen20 hlen21 hlen22 hlen23
      obtain ⟨hun, o, ho, hd⟩ := mem_ready.1 hi
      have hin : i < 24 := by have := (Array.getElem?_eq_some_iff.1 ho).1; simpa using this
      refine wpOp_free (B := fun a' W' => ∃ x0 x1 x2 x3 x4 x5 x6 x7 x8 x9 x10 x11 x12 x13 x14 x15 x16 x17 x18 x19 x20 x21 x22 x23, a' = putAll _ [x0, x1, x2, x3, x4, x5, x6, x7, x8, x9, x10, x11, x12, x13, x14, x15, x16, x17, x18, x19, x20, x21, x22, x23] _ ∧ InvG _ _ _ [x0, x1, x2, x3, x4, x5, x6, x7, x8, x9, x10, x11, x12, x13, x14, x15, x16, x17, x18, x19, x20, x21, x22, x23] (L.setIfInBounds i true) W') (fun _ _ h => by obtain ⟨x0, x1, x2, x3, x4, x5, x6, x7, x8, x9, x10, x11, x12, x13, x14, x15, x16, x17, x18, x19, x20, x21, x22, x23, h1, h2⟩ := h; exact ⟨[x0, x1, x2, x3, x4, x5, x6, x7, x8, x9, x10, x11, x12, x13, x14, x15, x16, x17, x18, x19, x20, x21, x22, x23], rfl, h1, h2⟩) ?_
      intro K HK
      simp only [putAll_cons, putAll_nil, put_some, put_none, List.setIfInBounds_toArray, List.set_cons_succ, List.set_cons_zero] at HK ⊢
      have HOK := hd0 hok
      have HOK2 := hd0 hok2
      clear hok hok2
      have hlk := (HOJ.out.map.same (hJ.part.frame gM HOJ.out.map.lt HOJ.out.ne (own_map HOJ.out.r1 HOJ.out.map) (own_map HOJ.out.r2 HOJ.out.map))).look MK HMS.out
      rw [HSZ.out] at hlk
      rcases (show i = 0 ∨ i = 1 ∨ i = 2 ∨ i = 3 ∨ i = 4 ∨ i = 5 ∨ i = 6 ∨ i = 7 ∨ i = 8 ∨ i = 9 ∨ i = 10 ∨ i = 11 ∨ i = 12 ∨ i = 13 ∨ i = 14 ∨ i = 15 ∨ i = 16 ∨ i = 17 ∨ i = 18 ∨ i = 19 ∨ i = 20 ∨ i = 21 ∨ i = 22 ∨ i = 23 by omega) with rfl | rfl | rfl | rfl | rfl | rfl | rfl | rfl | rfl | rfl | rfl | rfl | rfl | rfl | rfl | rfl | rfl | rfl | rfl | rfl | rfl | rfl | rfl | rfl
      ·obtain rfl := Option.some.inj ho
       refine wpOp_of_list (by rfl) ?_
       go_wp2
       exact HK.out _ _ ⟨_, _, _, _, _, _, _, _, _, _, _, _, _, _, _, _, _, _, _, _, _, _, _, _, rfl, hJ.up HPART.out 0 (by decide) (show 0 < 24 by decide) rfl⟩
      ·obtain rfl := Option.some.inj ho
       refine wpOp_of_list (by rfl) ?_
       go_wp2
       exact HK.out _ _ ⟨_, _, _, _, _, _, _, _, _, _, _, _, _, _, _, _, _, _, _, _, _, _, _, _, rfl, hJ.up HPART.out 1 (by decide) (show 1 < 24 by decide) rfl⟩
      ·obtain rfl := Option.some.inj ho
       refine wpOp_of_list (by rfl) ?_
       go_wp2
       exact HK.out _ _ ⟨_, _, _, _, _, _, _, _, _, _, _, _, _, _, _, _, _, _, _, _, _, _, _, _, rfl, hJ.up HPART.out 2 (by decide) (show 2 < 24 by decide) rfl⟩
      ·obtain rfl := Option.some.inj ho
       have d2 : x2 = .pointer (some ⟨g11, 0, none⟩) := hJ.val 2 (show 2 < 24 by decide) (by decide) (getD_upJ (hd ⟨2, .data⟩ (by simp) (by rfl)))
       subst d2
       refine wpOp_of_list (by rfl) ?_
       go_wp2
       exact HK.out _ _ ⟨_, _, _, _, _, _, _, _, _, _, _, _, _, _, _, _, _, _, _, _, _, _, _, _, rfl, hJ.up HPART.out 3 (by decide) (show 3 < 24 by decide) rfl⟩
      ·obtain rfl := Option.some.inj ho
       have d3 : x3 = .pointer (some ⟨g11, 0, none⟩) := hJ.val 3 (show 3 < 24 by decide) (by decide) (getD_upJ (hd ⟨3, .data⟩ (by simp) (by rfl)))
       subst d3
       refine wpOp_of_list (by rfl) ?_
       go_wp2
       exact HK.out _ _ ⟨_, _, _, _, _, _, _, _, _, _, _, _, _, _, _, _, _, _, _, _, _, _, _, _, rfl, hJ.up HPART.out 4 (by decide) (show 4 < 24 by decide) rfl⟩
      ·obtain rfl := Option.some.inj ho
       have d4 : x4 = .pointer (some ⟨g11, 0, none⟩) := hJ.val 4 (show 4 < 24 by decide) (by decide) (getD_upJ (hd ⟨4, .data⟩ (by simp) (by rfl)))
       subst d4
       have hc : W.cell? ⟨g11, 0, none⟩ = some (.slice b1 k d1) := hJ.part.cell hun (fun _ _ => rfl)
       refine wpOp_of_list (by rfl) ?_
       go_wp2
       exact HK.out _ _ ⟨_, _, _, _, _, _, _, _, _, _, _, _, _, _, _, _, _, _, _, _, _, _, _, _, rfl, hJ.spec 5 (by decide) _ ((hJ.part.stepL HOK.out (show 5 < 24 by decide) rfl))⟩
      ·obtain rfl := Option.some.inj ho
       refine wpOp_of_list (by rfl) ?_
       go_wp2
       exact HK.out _ _ ⟨_, _, _, _, _, _, _, _, _, _, _, _, _, _, _, _, _, _, _, _, _, _, _, _, rfl, hJ.up HPART.out 6 (by decide) (show 6 < 24 by decide) rfl⟩
      ·obtain rfl := Option.some.inj ho
       have d6 : x6 = .slice a15 LG.length c15 := hJ.val 6 (show 6 < 24 by decide) (by decide) (getD_upJ (hd ⟨6, .data⟩ (by simp) (by rfl)))
       subst d6
       refine wpOp_of_list (by rfl) ?_
       go_wp2
       exact HK.out _ _ ⟨_, _, _, _, _, _, _, _, _, _, _, _, _, _, _, _, _, _, _, _, _, _, _, _, rfl, hJ.spec 7 (by decide) _ ((hJ.part.stepB HOK.out (show 7 < 24 by decide) rfl rfl))⟩
      ·obtain rfl := Option.some.inj ho
       have hkl := (getD_upJ (hd ⟨5, .data⟩ (by simp) (by rfl)))
       have dl : x5 = .slice b1 k d1 := hJ.part.r1.load hkl
       obtain ⟨gl, hl1, hl2, hl3⟩ := hJ.part.r1.lit (getD_upJ (hd ⟨7, .data⟩ (by simp) (by rfl)))
       have hl4 : x7 = .slice (some ⟨gl, 0, none⟩) 1 1 := hl1
       have hrow := hJ.part.r1.row0 hun
       subst dl hl4
       refine wpOp_of_list (by rfl) ?_
       refine app_own_w2 rfl _ _ 160 rfl 22 (.slice none 0 0) 1 24 Tryz.underlying160 info_bxs rfl (by decide) w.heap.size (.slice b1 k d1) k _ _ rfl hrow gl 1 1 _ rfl (by rfl) hl3 (fun u hu => by simp at hu; subst hu; rfl) (by omega) (by decide) (by have := hJ.part.size; have := HOJ.out.below.size; omega) ?_
       intro u' w' hown hg hw
       go_wp2
       exact HK.out _ _ ⟨_, _, _, _, _, _, _, _, _, _, _, _, _, _, _, _, _, _, _, _, _, _, _, _, rfl, hJ.spec 8 (by decide) _ ((hJ.part.stepA HOK.out (show 8 < 24 by decide) (by decide) (by decide) hun hkl hown hg))⟩
      ·obtain rfl := Option.some.inj ho
       refine wpOp_of_list (by rfl) ?_
       go_wp2
       exact HK.out _ _ ⟨_, _, _, _, _, _, _, _, _, _, _, _, _, _, _, _, _, _, _, _, _, _, _, _, rfl, hJ.up HPART.out 9 (by decide) (show 9 < 24 by decide) rfl⟩
      ·obtain rfl := Option.some.inj ho
       have d9 : x9 = .pointer (some ⟨g11, 0, none⟩) := hJ.val 9 (show 9 < 24 by decide) (by decide) (getD_upJ (hd ⟨9, .data⟩ (by simp) (by rfl)))
       subst d9
       refine wpOp_of_list (by rfl) ?_
       go_wp2
       exact HK.out _ _ ⟨_, _, _, _, _, _, _, _, _, _, _, _, _, _, _, _, _, _, _, _, _, _, _, _, rfl, hJ.up HPART.out 10 (by decide) (show 10 < 24 by decide) rfl⟩
      ·obtain rfl := Option.some.inj ho
       have d10 : x10 = .pointer (some ⟨g11, 0, none⟩) := hJ.val 10 (show 10 < 24 by decide) (by decide) (getD_upJ (hd ⟨10, .data⟩ (by simp) (by rfl)))
       subst d10
       refine wpOp_of_list (by rfl) ?_
       go_wp2
       exact HK.out _ _ ⟨_, _, _, _, _, _, _, _, _, _, _, _, _, _, _, _, _, _, _, _, _, _, _, _, rfl, hJ.up HPART.out 11 (by decide) (show 11 < 24 by decide) rfl⟩
      ·obtain rfl := Option.some.inj ho
       have d11 : x11 = .pointer (some ⟨g11, 1, none⟩) := hJ.val 11 (show 11 < 24 by decide) (by decide) (getD_upJ (hd ⟨11, .data⟩ (by simp) (by rfl)))
       subst d11
       have hc : W.cell? ⟨g11, 1, none⟩ = some (.slice b2 k d2) := hJ.part.swap.cell hun (fun _ _ => rfl)
       refine wpOp_of_list (by rfl) ?_
       go_wp2
       exact HK.out _ _ ⟨_, _, _, _, _, _, _, _, _, _, _, _, _, _, _, _, _, _, _, _, _, _, _, _, rfl, hJ.spec 12 (by decide) _ ((hJ.part.swap.stepL HOK2.out (show 12 < 24 by decide) rfl).unswap)⟩
      ·obtain rfl := Option.some.inj ho
       refine wpOp_of_list (by rfl) ?_
       go_wp2
       exact HK.out _ _ ⟨_, _, _, _, _, _, _, _, _, _, _, _, _, _, _, _, _, _, _, _, _, _, _, _, rfl, hJ.up HPART.out 13 (by decide) (show 13 < 24 by decide) rfl⟩
      ·obtain rfl := Option.some.inj ho
       refine wpOp_of_list (by rfl) ?_
       go_wp2
       exact HK.out _ _ ⟨_, _, _, _, _, _, _, _, _, _, _, _, _, _, _, _, _, _, _, _, _, _, _, _, rfl, hJ.up HPART.out 14 (by decide) (show 14 < 24 by decide) rfl⟩
      ·obtain rfl := Option.some.inj ho
       have d13 : x13 = .map (some gM) := hJ.val 13 (show 13 < 24 by decide) (by decide) (getD_upJ (hd ⟨13, .data⟩ (by simp) (by rfl)))
       have d14 : x14 = .string MK := hJ.val 14 (show 14 < 24 by decide) (by decide) (getD_upJ (hd ⟨14, .data⟩ (by simp) (by rfl)))
       subst d13 d14
       refine wpOp_of_list (by rfl) ?_
       go_wp2
       exact HK.out _ _ ⟨_, _, _, _, _, _, _, _, _, _, _, _, _, _, _, _, _, _, _, _, _, _, _, _, rfl, hJ.up HPART.out 15 (by decide) (show 15 < 24 by decide) rfl⟩
      ·obtain rfl := Option.some.inj ho
       have d15 : x15 = .int .i64 SZ := hJ.val 15 (show 15 < 24 by decide) (by decide) (getD_upJ (hd ⟨15, .data⟩ (by simp) (by rfl)))
       subst d15
       refine wpOp_of_list (by rfl) ?_
       go_wp2
       exact HK.out _ _ ⟨_, _, _, _, _, _, _, _, _, _, _, _, _, _, _, _, _, _, _, _, _, _, _, _, rfl, hJ.spec 16 (by decide) _ ((hJ.part.swap.stepB HOK2.out (show 16 < 24 by decide) rfl rfl).unswap)⟩
      ·obtain rfl := Option.some.inj ho
       have hkl := (getD_upJ (hd ⟨12, .data⟩ (by simp) (by rfl)))
       have dl : x12 = .slice b2 k d2 := hJ.part.swap.r1.load hkl
       obtain ⟨gl, hl1, hl2, hl3⟩ := hJ.part.swap.r1.lit (getD_upJ (hd ⟨16, .data⟩ (by simp) (by rfl)))
       have hl4 : x16 = .slice (some ⟨gl, 0, none⟩) 1 1 := hl1
       have hrow := hJ.part.swap.r1.row0 hun
       subst dl hl4
       refine wpOp_of_list (by rfl) ?_
       refine app_own_w2 rfl _ _ 48 rfl 3 (.int .i64 0) 1 8 Tryz.underlying48 info_int1 rfl (by decide) w.heap.size (.slice b2 k d2) k _ _ rfl hrow gl 1 1 _ rfl (by rfl) hl3 (fun u hu => by simp at hu; subst hu; rfl) (by omega) (by decide) (by have := hJ.part.size; have := HOJ.out.below.size; omega) ?_
       intro u' w' hown hg hw
       go_wp2
       exact HK.out _ _ ⟨_, _, _, _, _, _, _, _, _, _, _, _, _, _, _, _, _, _, _, _, _, _, _, _, rfl, hJ.spec 17 (by decide) _ ((hJ.part.swap.stepA HOK2.out (show 17 < 24 by decide) (by decide) (by decide) hun hkl hown hg).unswap)⟩
      ·obtain rfl := Option.some.inj ho
       have d0 : x0 = .pointer (some ⟨g11, 0, none⟩) := hJ.val 0 (show 0 < 24 by decide) (by decide) (getD_upJ (hd ⟨0, .data⟩ (by simp) (by rfl)))
       subst d0
       refine wpOp_of_list (by rfl) ?_
       go_wp2
       exact HK.out _ _ ⟨_, _, _, _, _, _, _, _, _, _, _, _, _, _, _, _, _, _, _, _, _, _, _, _, rfl, hJ.up HPART.out 18 (by decide) (show 18 < 24 by decide) rfl⟩
      ·obtain rfl := Option.some.inj ho
       have d18 : x18 = .pointer (some ⟨g11, 0, none⟩) := hJ.val 18 (show 18 < 24 by decide) (by decide) (getD_upJ (hd ⟨18, .data⟩ (by simp) (by rfl)))
       subst d18
       refine wpOp_of_list (by rfl) ?_
       go_wp2
       exact HK.out _ _ ⟨_, _, _, _, _, _, _, _, _, _, _, _, _, _, _, _, _, _, _, _, _, _, _, _, rfl, hJ.up HPART.out 19 (by decide) (show 19 < 24 by decide) rfl⟩
      ·obtain rfl := Option.some.inj ho
       have d19 : x19 = .pointer (some ⟨g11, 0, none⟩) := hJ.val 19 (show 19 < 24 by decide) (by decide) (getD_upJ (hd ⟨19, .data⟩ (by simp) (by rfl)))
       subst d19
       have hka := (getD_upJ (hd ⟨8, .data⟩ (by simp) (by rfl)))
       have hb := hJ.part.blk
       have qf : W.frozen? ⟨g11, 0, none⟩ = false := hb.frozen 0
       obtain ⟨zq, qg⟩ : ∃ z, W.cell? ⟨g11, 0, none⟩ = some z := ⟨_, (hb.cell 0).trans rfl⟩
       obtain ⟨au, cu, hx1, -, -, -⟩ := own_shape (hJ.part.r1.row1 hka)
       have hx2 : x8 = .slice au (k + 1) cu := hx1
       clear hb
       subst hx2
       refine wpOp_of_list (by rfl) ?_
       go_wp2
       exact HK.out _ _ ⟨_, _, _, _, _, _, _, _, _, _, _, _, _, _, _, _, _, _, _, _, _, _, _, _, rfl, hJ.spec0 20 (by decide) ((hJ.part.stepS HOK.out (by decide) (by decide) (fun _ _ _ => rfl) hun hka rfl rfl))⟩
      ·obtain rfl := Option.some.inj ho
       have d1 : x1 = .pointer (some ⟨g11, 0, none⟩) := hJ.val 1 (show 1 < 24 by decide) (by decide) (getD_upJ (hd ⟨1, .data⟩ (by simp) (by rfl)))
       subst d1
       refine wpOp_of_list (by rfl) ?_
       go_wp2
       exact HK.out _ _ ⟨_, _, _, _, _, _, _, _, _, _, _, _, _, _, _, _, _, _, _, _, _, _, _, _, rfl, hJ.up HPART.out 21 (by decide) (show 21 < 24 by decide) rfl⟩
      ·obtain rfl := Option.some.inj ho
       have d21 : x21 = .pointer (some ⟨g11, 0, none⟩) := hJ.val 21 (show 21 < 24 by decide) (by decide) (getD_upJ (hd ⟨21, .data⟩ (by simp) (by rfl)))
       subst d21
       refine wpOp_of_list (by rfl) ?_
       go_wp2
       exact HK.out _ _ ⟨_, _, _, _, _, _, _, _, _, _, _, _, _, _, _, _, _, _, _, _, _, _, _, _, rfl, hJ.up HPART.out 22 (by decide) (show 22 < 24 by decide) rfl⟩
      ·obtain rfl := Option.some.inj ho
       have d22 : x22 = .pointer (some ⟨g11, 1, none⟩) := hJ.val 22 (show 22 < 24 by decide) (by decide) (getD_upJ (hd ⟨22, .data⟩ (by simp) (by rfl)))
       subst d22
       have hka := (getD_upJ (hd ⟨17, .data⟩ (by simp) (by rfl)))
       have hb := hJ.part.swap.blk
       have qf : W.frozen? ⟨g11, 1, none⟩ = false := hb.frozen 1
       obtain ⟨zq, qg⟩ : ∃ z, W.cell? ⟨g11, 1, none⟩ = some z := ⟨_, (hb.cell 1).trans rfl⟩
       obtain ⟨au, cu, hx1, -, -, -⟩ := own_shape (hJ.part.swap.r1.row1 hka)
       have hx2 : x17 = .slice au (k + 1) cu := hx1
       clear hb
       subst hx2
       refine wpOp_of_list (by rfl) ?_
       go_wp2
       exact HK.out _ _ ⟨_, _, _, _, _, _, _, _, _, _, _, _, _, _, _, _, _, _, _, _, _, _, _, _, rfl, hJ.spec0 23 (by decide) ((hJ.part.swap.stepS HOK2.out (by decide) (by decide) (fun _ _ _ => rfl) hun hka rfl rfl).unswap)⟩
     ·intro vs L W hlen hJ hall
      obtain ⟨x0, vs0, rfl, hlen0⟩ := len_cons hlen
      obtain ⟨x1, vs1, rfl, hlen1⟩ := len_cons hlen0
      obtain ⟨x2, vs2, rfl, hlen2⟩ := len_cons hlen1
      obtain ⟨x3, vs3, rfl, hlen3⟩ := len_cons hlen2
      obtain ⟨x4, vs4, rfl, hlen4⟩ := len_cons hlen3
      obtain ⟨x5, vs5, rfl, hlen5⟩ := len_cons hlen4
      obtain ⟨x6, vs6, rfl, hlen6⟩ := len_cons hlen5
      obtain ⟨x7, vs7, rfl, hlen7⟩ := len_cons hlen6
      obtain ⟨x8, vs8, rfl, hlen8⟩ := len_cons hlen7
      obtain ⟨x9, vs9, rfl, hlen9⟩ := len_cons hlen8
      obtain ⟨x10, vs10, rfl, hlen10⟩ := len_cons hlen9
      obtain ⟨x11, vs11, rfl, hlen11⟩ := len_cons hlen10
      obtain ⟨x12, vs12, rfl, hlen12⟩ := len_cons hlen11
      obtain ⟨x13, vs13, rfl, hlen13⟩ := len_cons hlen12
      obtain ⟨x14, vs14, rfl, hlen14⟩ := len_cons hlen13
      obtain ⟨x15, vs15, rfl, hlen15⟩ := len_cons hlen14
      obtain ⟨x16, vs16, rfl, hlen16⟩ := len_cons hlen15
      obtain ⟨x17, vs17, rfl, hlen17⟩ := len_cons hlen16
      obtain ⟨x18, vs18, rfl, hlen18⟩ := len_cons hlen17
      obtain ⟨x19, vs19, rfl, hlen19⟩ := len_cons hlen18
      obtain ⟨x20, vs20, rfl, hlen20⟩ := len_cons hlen19
      obtain ⟨x21, vs21, rfl, hlen21⟩ := len_cons hlen20
      obtain ⟨x22, vs22, rfl, hlen22⟩ := len_cons hlen21
      obtain ⟨x23, vs23, rfl, hlen23⟩ := len_cons hlen22
      obtain rfl := len_nil hlen23
      clear hlen hlen0 hlen1 hlen2 hlen3 hlen4 hlen5 hlen6 hlen7 hlen8 hlen9 hlen10 hlen11 hlen12 hlen13 hlen14 hlen15 hlen16 hlen17 hlen18 hlen19 hlen20 hlen21 hlen22 hlen23
      have d0 : x0 = .pointer (some ⟨g11, 0, none⟩) := hJ.val 0 (show 0 < 24 by decide) (by decide) (hall 0 (of_decide_eq_true (by kernel_rfl)))
      have d1 : x1 = .pointer (some ⟨g11, 0, none⟩) := hJ.val 1 (show 1 < 24 by decide) (by decide) (hall 1 (of_decide_eq_true (by kernel_rfl)))
      have d2 : x2 = .pointer (some ⟨g11, 0, none⟩) := hJ.val 2 (show 2 < 24 by decide) (by decide) (hall 2 (of_decide_eq_true (by kernel_rfl)))
      have d3 : x3 = .pointer (some ⟨g11, 0, none⟩) := hJ.val 3 (show 3 < 24 by decide) (by decide) (hall 3 (of_decide_eq_true (by kernel_rfl)))
      have d4 : x4 = .pointer (some ⟨g11, 0, none⟩) := hJ.val 4 (show 4 < 24 by decide) (by decide) (hall 4 (of_decide_eq_true (by kernel_rfl)))
      have d6 : x6 = .slice a15 LG.length c15 := hJ.val 6 (show 6 < 24 by decide) (by decide) (hall 6 (of_decide_eq_true (by kernel_rfl)))
      have d9 : x9 = .pointer (some ⟨g11, 0, none⟩) := hJ.val 9 (show 9 < 24 by decide) (by decide) (hall 9 (of_decide_eq_true (by kernel_rfl)))
      have d10 : x10 = .pointer (some ⟨g11, 0, none⟩) := hJ.val 10 (show 10 < 24 by decide) (by decide) (hall 10 (of_decide_eq_true (by kernel_rfl)))
      have d11 : x11 = .pointer (some ⟨g11, 1, none⟩) := hJ.val 11 (show 11 < 24 by decide) (by decide) (hall 11 (of_decide_eq_true (by kernel_rfl)))
      have d13 : x13 = .map (some gM) := hJ.val 13 (show 13 < 24 by decide) (by decide) (hall 13 (of_decide_eq_true (by kernel_rfl)))
      have d14 : x14 = .string MK := hJ.val 14 (show 14 < 24 by decide) (by decide) (hall 14 (of_decide_eq_true (by kernel_rfl)))
      have d15 : x15 = .int .i64 SZ := hJ.val 15 (show 15 < 24 by decide) (by decide) (hall 15 (of_decide_eq_true (by kernel_rfl)))
      have d18 : x18 = .pointer (some ⟨g11, 0, none⟩) := hJ.val 18 (show 18 < 24 by decide) (by decide) (hall 18 (of_decide_eq_true (by kernel_rfl)))
      have d19 : x19 = .pointer (some ⟨g11, 0, none⟩) := hJ.val 19 (show 19 < 24 by decide) (by decide) (hall 19 (of_decide_eq_true (by kernel_rfl)))
      have d21 : x21 = .pointer (some ⟨g11, 0, none⟩) := hJ.val 21 (show 21 < 24 by decide) (by decide) (hall 21 (of_decide_eq_true (by kernel_rfl)))
      have d22 : x22 = .pointer (some ⟨g11, 1, none⟩) := hJ.val 22 (show 22 < 24 by decide) (by decide) (hall 22 (of_decide_eq_true (by kernel_rfl)))
      subst d0 d1 d2 d3 d4 d6 d9 d10 d11 d13 d14 d15 d18 d19 d21 d22
      have hN := HOJ.out.next HLR.out hJ.part ⟨rfl, rfl, rfl, by rw [HLG2.out]⟩ ⟨rfl, rfl, rfl, by rw [HSZ2.out]⟩ (hall 8 (of_decide_eq_true (by kernel_rfl))) (hall 20 (of_decide_eq_true (by kernel_rfl))) (hall 17 (of_decide_eq_true (by kernel_rfl))) (hall 23 (of_decide_eq_true (by kernel_rfl))) HCN.out
      have HN := hd0 hN
      clear hN hJ hall hok hok2
      simp only [putAll_cons, putAll_nil, put_some, put_none, List.setIfInBounds_toArray, List.set_cons_succ, List.set_cons_zero]
      go_wp2
      go_roundw
      case rel => exact ⟨k + 1, x8, x17, _, by omega, by go_num, HN.out⟩
      case measure => simp [intOf]; omega
    ·obtain rfl : k = N := by omega
     clear hj
     go_wp2
     go_ret2
     exact ⟨_, rfl, by rw [HN0.out, Int.toNat_natCast]; exact HJ.out.space, ext_of HJ.out.below⟩

set_option maxHeartbeats 8000000
set_option maxRecDepth 100000

end Go.Proofs.YtkjljneehgmmaaaGreat

