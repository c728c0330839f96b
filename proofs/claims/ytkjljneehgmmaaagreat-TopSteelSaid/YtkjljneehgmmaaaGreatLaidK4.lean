/- LaidK, LaidL, LaidM, LaidN, LaidO in one text. -/
import Derived.Test.YtkjljneehgmmaaaGreatLaidK3
import Derived.Test.YtkjljneehgmmaaaGreatAaK6
import Derived.RangeFuncBox
import Derived.Test.YtkjljneehgmmaaaGreatAaK5
import Derived.Test.YtkjljneehgmmaaaGreatAaK1
namespace Go.Proofs.YtkjljneehgmmaaaGreat
open Go.RowKit
set_option maxRecDepth 20000

structure KC (n₀ : Nat) (W W' : World) : Prop where
 below : Below n₀ W W'
 size : W.heap.size ≤ W'.heap.size
 cells : ∀ k : Nat, (∃ cs t fr, W.heap[k]? = some (.cells cs t fr)) → W'.heap[k]? = W.heap[k]?
theorem KC.trans {n₀ : Nat} {A B C : World} (h : KC n₀ A B) (k : KC n₀ B C) : KC n₀ A C :=
 ⟨h.below.trans k.below, Nat.le_trans h.size k.size, fun b ⟨cs, t, fr, hc⟩ => by
  have h1 := h.cells b ⟨cs, t, fr, hc⟩
  exact (k.cells b ⟨cs, t, fr, by rw [h1, hc]⟩).trans h1⟩
theorem KC.of_below {n₀ : Nat} {A B : World} (hn : n₀ ≤ A.heap.size) (h : Below A.heap.size A B) : KC n₀ A B :=
 ⟨h.mono hn, h.size, fun k ⟨_, _, _, hc⟩ => h.block k (Array.getElem?_eq_some_iff.1 hc).1⟩
theorem KC.cell {n₀ : Nat} {W W' : World} (h : KC n₀ W W') {a : Addr} {v : Value} (hc : W.cell? a = some v) : W'.cell? a = some v := by
 refine (World.cell?_of_block (h.cells a.block ?_)).trans hc
 unfold World.cell? at hc
 split at hc
 ·rename_i cs t fr hh; exact ⟨_, _, _, hh⟩
 ·cases hc
theorem KC.blk {n₀ : Nat} {W W' : World} (h : KC n₀ W W') {k : Nat} {cs : Array Value} {t : TypeId} (hb : Blk W k cs t) : Blk W' k cs t := hb.of_block (h.cells k ⟨_, _, _, hb⟩)
theorem KC.pts {n₀ : Nat} {W W' : World} (h : KC n₀ W W') {v : Value} {l : List Pt} (hp : Pts W v l) : Pts W' v l := by
 obtain ⟨a, cap, h1, h2, h3, h4⟩ := hp
 exact ⟨a, cap, h1, h2, h3, fun i hi => let ⟨b, off, e, p0, p1, p2⟩ := h4 i hi; ⟨b, off, e, h.cell p0, h.cell p1, h.cell p2⟩⟩

theorem ptCells_set (L : List Pt) (i : Nat) (hi : i < L.length) (p : Pt) : (((ptCells L).set (i * 3) (.int .i64 p.x)).set (i * 3 + 1) (.int .i64 p.y)).set (i * 3 + 2) (.int .i64 p.z) = ptCells (L.set i p) := by
 induction L generalizing i with
 | nil => simp at hi
 | cons a L ih =>
   cases i with
   | zero => simp [ptCells]
   | succ i =>
     have := ih i (by simpa using hi)
     rw [show (i + 1) * 3 = i * 3 + 1 + 1 + 1 by omega]
     simp only [ptCells, List.flatMap_cons, List.cons_append, List.nil_append, List.set_cons_succ]
     simp only [ptCells] at this
     rw [this]
theorem Blk.set_pt {W : World} {k : Nat} {L : List Pt} {t : TypeId} (h : Blk W k (ptCells L).toArray t) (i : Nat) (hi : i < L.length) (p : Pt) :
  Blk (((W.setCell ⟨k, i * 3, none⟩ (.int .i64 p.x)).setCell ⟨k, i * 3 + 1, none⟩ (.int .i64 p.y)).setCell ⟨k, i * 3 + 2, none⟩ (.int .i64 p.z)) k (ptCells (L.set i p)).toArray t := by
 have := ((h.set (i * 3) (.int .i64 p.x)).set (i * 3 + 1) (.int .i64 p.y)).set (i * 3 + 2) (.int .i64 p.z)
 rw [← ptCells_set L i hi p]
 simpa using this
theorem below_set3 {wb wx : World} {g : Nat} (h : Below wb.heap.size wb wx) (hg : g = wb.heap.size) (i j k : Nat) (a b c : Value) : Below wb.heap.size wb (((wx.setCell ⟨g, i, none⟩ a).setCell ⟨g, j, none⟩ b).setCell ⟨g, k, none⟩ c) :=
 ((h.setCell (p := ⟨g, i, none⟩) (by show _ ≤ g; omega) a).setCell (p := ⟨g, j, none⟩) (by show _ ≤ g; omega) b).setCell (p := ⟨g, k, none⟩) (by show _ ≤ g; omega) c
theorem Blk.other3 {w : World} {k g : Nat} {cs : Array Value} {t : TypeId} (h : Blk w k cs t) (hne : k ≠ g) (i j l : Nat) (a b c : Value) : Blk (((w.setCell ⟨g, i, none⟩ a).setCell ⟨g, j, none⟩ b).setCell ⟨g, l, none⟩ c) k cs t :=
 ((h.other (a := ⟨g, i, none⟩) hne a).other (a := ⟨g, j, none⟩) hne b).other (a := ⟨g, l, none⟩) hne c
def fillL (f : Pt → Pt) (T : List Pt) (i : Nat) : List Pt := (T.take i).map f ++ List.replicate (T.length - i) ⟨0, 0, 0⟩
theorem fillL_length (f : Pt → Pt) (T : List Pt) {i : Nat} (h : i ≤ T.length) : (fillL f T i).length = T.length := by
 unfold fillL
 rw [List.length_append, List.length_map, List.length_take, List.length_replicate]; omega
theorem fillL_set (f : Pt → Pt) (T : List Pt) {i : Nat} (h : i < T.length) : (fillL f T i).set i (f T[i]) = fillL f T (i + 1) := by
 unfold fillL
 rw [show T.length - i = (T.length - (i + 1)) + 1 by omega, List.replicate_succ, List.take_succ_eq_append_getElem h, List.map_append]
 have hl : ((T.take i).map f).length = i := by rw [List.length_map, List.length_take]; omega
 rw [List.set_append_right _ _ (by omega), hl, Nat.sub_self, List.set_cons_zero, List.append_assoc]
 rfl
theorem fillL_zero (f : Pt → Pt) (T : List Pt) : fillL f T 0 = List.replicate T.length ⟨0, 0, 0⟩ := by simp [fillL]
theorem fillL_all (f : Pt → Pt) (T : List Pt) : fillL f T T.length = T.map f := by simp [fillL]

theorem ptCells_zero (n : Nat) : ptCells (List.replicate n ⟨0, 0, 0⟩) = List.replicate (n * 3) (.int .i64 0) := by
 induction n with
 | zero => rfl
 | succ n ih =>
   rw [List.replicate_succ, show (n + 1) * 3 = n * 3 + 1 + 1 + 1 by omega]
   simp only [List.replicate_succ]
   rw [← ih]; rfl
theorem made_pts (n : Nat) : madeCells (Value.cells (.agg #[.int .i64 0, .int .i64 0, .int .i64 0])) (n * 3) = (ptCells (List.replicate n ⟨0, 0, 0⟩)).toArray := by
 rw [ptCells_zero]
 apply Array.ext
 ·simp [madeCells]
 ·intro i h1 h2
  simp only [madeCells, Array.getElem_map, Array.getElem_range, List.getElem_toArray, List.getElem_replicate]
  have : i % 3 = 0 ∨ i % 3 = 1 ∨ i % 3 = 2 := by omega
  have hs : (Value.cells (.agg #[.int .i64 0, .int .i64 0, .int .i64 0])) = #[.int .i64 0, .int .i64 0, .int .i64 0] := by simp [Value.cells]
  rw [hs]
  rcases this with h | h | h <;> simp [h]
theorem run_mkpts (n : Nat) (hn : n ≤ 1000) (w : World) : (Instr.makeSlice 207 (.int .i64 (n : Int)) (.int .i64 (n : Int))).run Tryz.prog w = .ok (.slice (some ⟨w.heap.size, 0, none⟩) n n) (w.alloc (.cells (ptCells (List.replicate n ⟨0, 0, 0⟩)).toArray 38)) := by
 obtain ⟨i0, hi, hz0, hz1, hz2⟩ := info_parts info_pt
 have := run_makeSlice (P := Tryz.prog) w 207 38 i0 _ Tryz.underlying207 hi hz0 .i64 .i64 (n : Int) (n : Int) (by omega) (Int.le_refl _) (by rw [hz1]; simp; omega) (by rw [hz2]; omega) (by omega)
 rw [hz1] at this
 simp only [Int.toNat_natCast] at this
 rw [made_pts] at this
 exact this

theorem place_take {rs : List Rn} (h : ∀ r ∈ rs, 1 ≤ r.count) {j : Int} (hj : 0 ≤ j) (k : Nat) : placeR rs (countS (rs.take k) + j) = placeR (rs.drop k) j := by
 induction rs generalizing k with
 | nil => simp [placeR]
 | cons r rs ih =>
   cases k with
   | zero => simp [countS]
   | succ k =>
     have hr := h r List.mem_cons_self
     have h0 : ∀ (l : List Rn), (∀ r ∈ l, 1 ≤ r.count) → 0 ≤ countS l := by
      intro l
      induction l with
      | nil => intro _; exact Int.le_refl _
      | cons a l ih => intro h; have h1 := h a List.mem_cons_self; have h2 := ih fun x hx => h x (List.mem_cons_of_mem _ hx); simp only [countS]; omega
     have hc := h0 (rs.take k) fun x hx => h x (List.mem_cons_of_mem _ (List.mem_of_mem_take hx))
     simp only [List.take_succ_cons, countS, List.drop_succ_cons, placeR]
     rw [if_neg (by omega), show r.count + countS (rs.take k) + j - r.count = countS (rs.take k) + j by omega]
     exact ih (fun x hx => h x (List.mem_cons_of_mem _ hx)) k

def pathI (bars : List Br) (rs : List Rn) (i : Int) : List Pt := match placeR rs i with | some (r, j) => laidL (barOf bars r.mark) r j | none => []

set_option maxRecDepth 100000 in
set_option maxHeartbeats 8000000 in
theorem laidAll1_c (l : List Br) (rs : List Rn) (v u : Value) (ll m n₀ pr pb : Nat) (w : World) (hn : n₀ ≤ w.heap.size) (hbl : ∀ W', Below n₀ w W' → Bars W' v l) (hrl : ∀ W', Below n₀ w W' → Runs W' u rs) (hv : laidB l rs = true)
  (sr : w.cell? ⟨pr, 0, none⟩ = some u) (sb : w.cell? ⟨pb, 0, none⟩ = some v)
  (J : Int → World → Prop) (Jx : World → Prop) (hJ : ∀ k W W', J k W → Below W.heap.size W W' → J k W')
  (hY : ∀ (k : Int) (g n : Nat) W, 0 ≤ k → k < countS rs → J k W → Below n₀ w W → w.heap.size ≤ g → Pts W (.slice (some ⟨g, 0, none⟩) n n) (pathI l rs k) → YieldAt Fence.wide m Tryz.prog ll #[.int .i64 k, .slice (some ⟨g, 0, none⟩) n n] W (fun e W' => (e = .returned (.bool true) ∧ J (k + 1) W' ∧ KC n₀ W W') ∨ (e = .returned (.bool false) ∧ Jx W')))
  (h0 : J 0 w) :
  Calls Tryz.prog 231 #[.func (.yield ll) #[] #[], .pointer (some ⟨pr, 0, none⟩), .pointer (some ⟨pb, 0, none⟩)] w (fun e W' => e = .returned (.tuple #[]) ∧ (J (countS rs) W' ∨ Jx W')) := by
 have HBL := hd0 hbl
 have HRL := hd0 hrl
 have HV := hd0 hv
 have KJ := hd0 hJ
 have KY := hd0 hY
 have J0 := hd0 h0
 obtain ⟨a, cap, rfl, h2, h3, h4⟩ := (hrl w (Below.refl _ _)).shape
 clear hbl hrl hv hJ hY h0 h4
 go_enter Tryz.func231, Tryz.ntmps231
 go_wp2_with fail
 go_loopw [4, 14] (fun n i wr => ∃ k : Nat, k ≤ rs.length ∧ i = .int .i64 k ∧ n = .int .i64 (countS (rs.take k)) ∧ KC n₀ w wr ∧ J (countS (rs.take k)) wr) (fun _ i _ => rs.length - (intOf i).toNat)
 case atStart => exact ⟨0, by omega, rfl, rfl, KC.of_below hn (Below.refl _ _), J0.out⟩
 case round =>
  obtain ⟨wa, rfl⟩ : ∃ W : World, W = wr := ⟨_, rfl⟩
  obtain ⟨k, hk, rfl, rfl, hkc, hj⟩ := hrel
  have HKC := hd0 hkc
  have HJ := hd0 hj
  clear J0 hj
  by_cases hlt : k < rs.length
  ·have q1 : (0 : Int) ≤ (k : Int) := by omega
   have q2 : (k : Int) < (rs.length : Int) := by omega
   obtain ⟨a', cap', e', _, _, hall⟩ := (HRL.out _ hkc.below).shape
   cases e'
   obtain ⟨_, b0, off, ea, hbr⟩ := hall k hlt
   subst ea
   have hrm := List.getElem_mem hlt
   have hct := count_take hlt
   have hcl := count_le HV.out (k + 1)
   have hc0 := count_le HV.out k
   have hdr := List.drop_eq_getElem_cons hlt
   obtain ⟨r, hr⟩ : ∃ r, rs[k] = r := ⟨_, rfl⟩
   rw [hr] at hbr hrm hct hdr
   have hrb := (laidB_iff.1 HV.out).2.2.1 r hrm
   have hcb := runB_count hrb
   obtain ⟨C, hC⟩ : ∃ C, countS (rs.take k) = C := ⟨_, rfl⟩
   rw [hC] at hct hc0 HJ ⊢
   have HC := hd0 hC
   have HCT := hd0 hct
   have hsum : 0 ≤ C ∧ C + r.count ≤ countS rs ∧ countS rs ≤ 2000 := by omega
   obtain ⟨s1, s2, s3⟩ := hsum
   obtain ⟨c0, c1, c2, c3, c4, c5, c6, c7, c8, c9⟩ := hbr
   have rr := hkc.cell sr
   have rb := hkc.cell sb
   have HDR := hd0 hdr
   have HRB := hd0 hrb
   clear hr hrm hct hcl hc0 hC hall hkc hdr hrb
   have H1 := hd0 HRB.out
   have htr : 0 ≤ findI l r.mark ∧ shapeB (barOf l r.mark) = true ∧ turnB r.tx r.ty = true := by
    have h := HRB.out
    rw [runB_eq] at h
    simp only [right1, Bool.and_eq_true, decide_eq_true_iff] at h
    exact ⟨h.1.1, schedB_shape (laidB_iff.1 HV.out).1 _ (bar_mem h.1.1), h.1.2.1⟩
   have HTU := hd0 (fun w hl => turned_c l v r htr.1 htr.2.1 htr.2.2 w hl)
   have htn := turnedL_near (r := r) htr.2.1 htr.2.2
   have htl := turnedL_len (barOf l r.mark) r
   obtain ⟨T, hT⟩ : ∃ T, turnedL (barOf l r.mark) r = T := ⟨_, rfl⟩
   rw [hT] at HTU htn htl
   have HT := hd0 hT
   have HTN := hd0 htn
   clear htr htn hT
   go_wp2_with fail
   go_at_call 194; refine (HTU.out _ (HBL.out _ (HKC.out.below.trans ((show Below wa.heap.size wa _ from gro).mono (Nat.le_trans hn HKC.out.size))))).mono ?_; rintro e w' ⟨v7, rfl, hown, y1, rfl⟩
   have hpt := Pts.of_own hown
   obtain ⟨a7, cap7, rfl, l1, l2, l3⟩ := hpt.shape
   have HPT := hd0 hpt
   clear hown hpt l3
   go_wp2_with fail
   obtain ⟨g6, hg6⟩ : ∃ g6, g6 = wa.heap.size := ⟨_, rfl⟩
   refine world_mask (fun W => KC n₀ w W ∧ Blk W wa.heap.size (rnCells r) 118 ∧ Pts W (.slice a7 T.length cap7) T ∧ J C W) _ ⟨?_, ?_, ?_, ?_⟩ ?_
   ·exact HKC.out.trans (KC.of_below (Nat.le_trans hn HKC.out.size) gro)
   ·exact Blk.ext (Blk.new' rfl _ _) _
   ·exact HPT.out
   ·exact KJ.out _ _ _ HJ.out gro
   rw [← hg6]
   clear hg6 c0 c1 c2 c3 c4 c5 c6 c7 c8 c9 rr rb HPT HJ HTU
   rintro W1 ⟨hk1, hb1, hp1, hj1⟩
   have HK1 := hd0 hk1
   have HB1 := hd0 hb1
   have HP1 := hd0 hp1
   have HJ1 := hd0 hj1
   clear hk1 hb1 hp1 hj1
   go_loopw [4, 23] (fun n i wr => ∃ j : Nat, (j : Int) ≤ r.count ∧ i = .int .i64 j ∧ n = .int .i64 (C + j) ∧ KC n₀ W1 wr ∧ J (C + j) wr) (fun _ i _ => r.count.toNat - (intOf i).toNat)
   case atStart => exact ⟨0, by omega, rfl, by simp, KC.of_below (Nat.le_trans hn HK1.out.size) (Below.refl _ _), by simpa using HJ1.out⟩
   case round =>
    obtain ⟨wb, rfl⟩ : ∃ W : World, W = wr := ⟨_, rfl⟩
    obtain ⟨j, hjc, rfl, rfl, hkc, hj⟩ := hrel
    have HKC2 := hd0 hkc
    have HJ2 := hd0 hj
    clear hkc hj HJ1
    by_cases hlt2 : (j : Int) < r.count
    ·have q3 : (0 : Int) ≤ (j : Int) := by omega
     have hmk := run_mkpts T.length (by omega)
     go_wp2_with fail
     obtain ⟨gO, hgO⟩ : ∃ g, g = wb.heap.size := ⟨_, rfl⟩
     have hb0 : Below wb.heap.size wb (wb.alloc (.cells (ptCells (List.replicate T.length ⟨0, 0, 0⟩)).toArray 38)) := gro
     have hB0 : Blk (wb.alloc (.cells (ptCells (List.replicate T.length ⟨0, 0, 0⟩)).toArray 38)) gO (ptCells (fillL (stepT r j) T 0)).toArray 38 := by rw [fillL_zero]; exact Blk.new' hgO _ _
     rw [← hgO]
     rw [← hgO] at hb0
     have HGO := hd0 hgO
     have HG6 := hd0 (show g6 ≠ gO by have := (HKC2.out.blk HB1.out).lt; omega)
     clear hgO hmk
     go_loopw [31] (fun i wx => ∃ q : Nat, q ≤ T.length ∧ i = .int .i64 q ∧ Below gO wb wx ∧ Blk wx gO (ptCells (fillL (stepT r j) T q)).toArray 38) (fun i _ => T.length - (intOf i).toNat)
     case atStart => exact ⟨0, by omega, rfl, hb0, hB0⟩
     case round =>
      clear hb0 hB0
      obtain ⟨wx, rfl⟩ : ∃ W : World, W = wr := ⟨_, rfl⟩
      obtain ⟨q, hq, rfl, hbx, hBx⟩ := hrel
      have HBX := hd0 hbx
      have HOX := hd0 hBx
      by_cases hlt3 : q < T.length
      ·have q5 : (0 : Int) ≤ (q : Int) := by omega
       have q6 : (q : Int) < (T.length : Int) := by omega
       have hbx' := hbx
       rw [HGO.out] at hbx'
       have rb := (HKC2.out.blk HB1.out).below hbx'
       have hpw := (HKC2.out.pts HP1.out).below hbx'
       have HRB2 := hd0 rb
       obtain ⟨a8, cap8, e8, _, _, h8⟩ := hpw
       cases e8
       obtain ⟨b8, off8, ea8, p0, p1, p2⟩ := h8 q hlt3
       subst ea8
       have htn := HTN.out _ (List.getElem_mem hlt3)
       have hfs := fillL_set (stepT r j) T hlt3
       have hfl := fillL_length (stepT r j) T hq
       obtain ⟨t, ht⟩ : ∃ t, T[q] = t := ⟨_, rfl⟩
       rw [ht] at p0 p1 p2 htn hfs
       obtain ⟨L, hL⟩ : ∃ L, fillL (stepT r j) T q = L := ⟨_, rfl⟩
       rw [hL] at hBx hfs hfl
       have hqL : q < L.length := by omega
       obtain ⟨e0, e1, e2⟩ := ptCells_get L q hqL
       have o0 := hBx.cell (q * 3)
       have o1 := hBx.cell (q * 3 + 1)
       have o2 := hBx.cell (q * 3 + 2)
       rw [List.getElem?_toArray] at o0 o1 o2
       rw [e0] at o0
       rw [e1] at o1
       rw [e2] at o2
       have f0 := hBx.frozen (q * 3)
       have f1 := hBx.frozen (q * 3 + 1)
       have f2 := hBx.frozen (q * 3 + 2)
       have c3 : wx.cell? ⟨g6, 3, none⟩ = some (.int .i64 r.ax) := rb.cell 3
       have c4 : wx.cell? ⟨g6, 4, none⟩ = some (.int .i64 r.ay) := rb.cell 4
       have c5 : wx.cell? ⟨g6, 5, none⟩ = some (.int .i64 r.az) := rb.cell 5
       have HBL2 := hd0 hBx
       have HFS := hd0 hfs
       have HLL := hd0 hL
       have HQL := hd0 hqL
       generalize L[q] = z at *
       have ha5 := HRB.out
       rw [runB_eq] at ha5
       simp only [right1, Bool.and_eq_true] at ha5
       obtain ⟨t1, t2, t3⟩ := htn
       obtain ⟨s1', s2', s3'⟩ := near_iff.1 ha5.1.2.2.2.2
       have HPL := hd0 (fun w => plus_c t ⟨r.ax, r.ay, r.az⟩ 1 (by unfold NearP; omega) (by unfold NearP; omega) (by omega) w)
       have hpn : NearP (plusP t ⟨r.ax, r.ay, r.az⟩ 1) 8388608 := by unfold NearP plusP; simp only at *; omega
       obtain ⟨P, hP⟩ : ∃ P, plusP t ⟨r.ax, r.ay, r.az⟩ 1 = P := ⟨_, rfl⟩
       rw [hP] at hpn HPL
       have HP := hd0 hP
       have HPN := hd0 hpn
       clear hbx hBx rb h8 hfs hL hqL e0 e1 e2 hfl ht t1 t2 t3 s1' s2' s3' ha5 hP hpn hbx'
       go_wp2_with fail
       go_at_call 195; refine (HPL.out _).mono ?_; rintro e w' ⟨rfl, z1, rfl⟩
       by_cases h0 : (0 : Int) < (j : Int)
       ·have hnear := HRB.out
        rw [runB_eq] at hnear
        simp only [right2, Bool.and_eq_true, Bool.or_eq_true, decide_eq_true_iff] at hnear
        have hst : NearP ⟨r.sx, r.sy, r.sz⟩ 2097152 := by
         rcases hnear.2.1 with h | h
         ·omega
         ·exact near_iff.1 h.2
        have HPS := hd0 (fun w => plus_c P ⟨r.sx, r.sy, r.sz⟩ j HPN.out hst (by omega) w)
        obtain ⟨Q, hQ⟩ : ∃ Q, plusP P ⟨r.sx, r.sy, r.sz⟩ j = Q := ⟨_, rfl⟩
        rw [hQ] at HPS
        have HST := hd0 (show stepT r j t = Q by unfold stepT; rw [if_pos h0, HP.out, hQ])
        clear hnear hst hQ
        go_upto_region 14 with fail
        refine world_mask (fun W => Below gO wb W ∧ Blk W gO (ptCells (L.set q P)).toArray 38 ∧ Blk W g6 (rnCells r) 118) _ ⟨?_, ?_, ?_⟩ ?_
        ·rw [HGO.out]
         exact grow_ext _ (grow_alloc _ (below_set3 (by rw [← HGO.out]; exact HBX.out) rfl _ _ _ _ _ _))
        ·exact ((HBL2.out.set_pt q HQL.out P).alloc _).ext _
        ·exact ((HRB2.out.other3 HG6.out _ _ _ _ _ _).alloc _).ext _
        clear p0 p1 p2 o0 o1 o2 f0 f1 f2 c3 c4 c5
        rintro WX ⟨hbW, hBW, hRW⟩
        have HBW := hd0 hbW
        have HOW := hd0 hBW
        have hql : q < (L.set q P).length := by rw [List.length_set]; exact HQL.out
        obtain ⟨e0, e1, e2⟩ := ptCells_get (L.set q P) q hql
        rw [List.getElem_set_self] at e0 e1 e2
        have o0 := hBW.cell (q * 3)
        have o1 := hBW.cell (q * 3 + 1)
        have o2 := hBW.cell (q * 3 + 2)
        rw [List.getElem?_toArray] at o0 o1 o2
        rw [e0] at o0
        rw [e1] at o1
        rw [e2] at o2
        have f0 := hBW.frozen (q * 3)
        have f1 := hBW.frozen (q * 3 + 1)
        have f2 := hBW.frozen (q * 3 + 2)
        have c6 : WX.cell? ⟨g6, 6, none⟩ = some (.int .i64 r.sx) := hRW.cell 6
        have c7 : WX.cell? ⟨g6, 7, none⟩ = some (.int .i64 r.sy) := hRW.cell 7
        have c8 : WX.cell? ⟨g6, 8, none⟩ = some (.int .i64 r.sz) := hRW.cell 8
        clear hbW hBW hRW e0 e1 e2 hql
        refine wp_region_tail 10 (by kernel_rfl) (by kernel_rfl) ?_; simp only [List.take_succ_cons, List.take_zero, List.drop_succ_cons, List.drop_zero]
        repeat (go_big_quiet_step ((go_at_call 195; exact Calls.quiet_ext (HPS.out _))))
        refine wpQuiet_nil ?_; rintro _ ⟨xq, rfl⟩
        go_wp2_with fail
        go_roundw
        case rel =>
         refine ⟨q + 1, by omega, by go_num, ?_, ?_⟩
         ·have hbW := HBW.out
          rw [HGO.out] at hbW ⊢
          exact grow_ext _ (below_set3 hbW rfl _ _ _ _ _ _)
         ·rw [← HFS.out, HST.out]
          have := (HOW.out.set_pt q (by rw [List.length_set]; exact HQL.out) Q).ext xq
          rw [List.set_set] at this
          exact this
        case measure => simp [intOf]; omega
       ·have HST := hd0 (show stepT r j t = P by unfold stepT; rw [if_neg h0]; exact HP.out)
        go_wp2
        go_roundw
        case rel =>
         refine ⟨q + 1, by omega, by go_num, ?_, ?_⟩
         ·rw [HGO.out]
          exact grow_ext _ (grow_alloc _ (below_set3 (by rw [← HGO.out]; exact HBX.out) rfl _ _ _ _ _ _))
         ·rw [← HFS.out, HST.out]
          exact ((HBL2.out.set_pt q HQL.out P).alloc _).ext _
        case measure => simp [intOf]; omega
      ·obtain rfl : q = T.length := by omega
       have hKX : KC n₀ W1 wx := HKC2.out.trans (KC.of_below (Nat.le_trans hn (Nat.le_trans HK1.out.size HKC2.out.size)) (by rw [← HGO.out]; exact hbx))
       have hpl : pathI l rs (C + j) = T.map (stepT r j) := by
        have hp := place_take (rs := rs) (fun x hx => (runB_count ((laidB_iff.1 HV.out).2.2.1 x hx)).1) q3 k
        rw [HC.out, HDR.out, placeR, if_pos hlt2] at hp
        unfold pathI
        rw [hp]
        simp only
        rw [laidL_eq _ _ q3, HT.out]
       have hpts : Pts wx (.slice (some ⟨gO, 0, none⟩) T.length T.length) (pathI l rs (C + j)) := by
        rw [hpl]
        rw [fillL_all] at hBx
        refine ⟨some ⟨gO, 0, none⟩, T.length, by rw [List.length_map], by rw [List.length_map]; exact Nat.le_refl _, by omega, fun i hi => ⟨gO, 0, rfl, ?_⟩⟩
        obtain ⟨e0, e1, e2⟩ := ptCells_get (T.map (stepT r j)) i hi
        rw [Nat.zero_add]
        exact ⟨by rw [hBx.cell, List.getElem?_toArray, e0], by rw [hBx.cell, List.getElem?_toArray, e1], by rw [hBx.cell, List.getElem?_toArray, e2]⟩
       have HY := KY.out (C + j) gO _ wx (by omega) (by omega) (KJ.out _ _ _ HJ2.out (by rw [← HGO.out]; exact hbx)) (HK1.out.trans hKX).below (by have h1 := (HK1.out.trans HKC2.out).size; have h2 := HGO.out; omega) hpts
       have HKX := hd0 hKX
       clear hKX hpl hpts hbx hBx
       go_upto_region 16 with fail
       obtain ⟨fn, tmps, assign, body, hy, hR⟩ := HY
       have HR := hd0 hR
       clear hR
       refine (wpIn_wide (n := 1)).1 ?_
       gi_wp2
       refine (roundIn_any HR.out).mono ?_
       rintro e W4 (⟨rfl, hj4, hk4⟩ | ⟨rfl, hjx⟩)
       ·have hk5 := HKX.out.trans hk4
        have HK5 := hd0 hk5
        have HJ4 := hd0 hj4
        clear hk4 hk5 hj4
        have hsm : -9223372036854775808 ≤ C + (j : Int) + 1 ∧ C + (j : Int) + 1 ≤ 9223372036854775807 := by omega
        gi_wp2
        go_wp2
        go_roundw
        case rel => exact ⟨j + 1, by omega, by go_num, by congr 1; omega, HK5.out, by rw [show C + ((j + 1 : Nat) : Int) = C + j + 1 by omega]; exact HJ4.out⟩
        case measure => simp [intOf]; omega
       ·gi_wp2
        go_wp2
        refine bodyPost_ret (results_none rfl _ _ _) rfl ?_
        exact ⟨rfl, .inr hjx⟩
    ·have hje : (j : Int) = r.count := by omega
     have HW := hd0 (HK1.out.trans HKC2.out)
     have HJ3 : Hid (J (countS (rs.take (k + 1))) wb) := by rw [HCT.out, ← hje]; exact HJ2.out
     have HN := hd0 (show C + (j : Int) = countS (rs.take (k + 1)) by rw [HCT.out, hje])
     clear hje
     go_wp2
     go_roundw
     case rel => exact ⟨k + 1, by omega, by go_num, by rw [HN.out], HW.out, HJ3.out⟩
     case measure => simp [intOf]; omega
  ·obtain rfl : k = rs.length := by omega
   have hj := HJ.out
   rw [List.take_length] at hj ⊢
   have HJ5 := hd0 hj
   clear hj
   go_wp2
   go_end0
   exact ⟨rfl, .inl HJ5.out⟩


theorem KC.putObj {n₀ : Nat} {A : World} {l : Nat} {o o' : Obj} (hn : n₀ ≤ l) (h : A.heap[l]? = some o) (hc : o.isCells = false) : KC n₀ A (A.putObj l o') :=
 ⟨(Below.refl n₀ A).grown (grownBy_putObj' A l o') (by have := (Array.getElem?_eq_some_iff.1 h).1; omega) (fun k e => by cases e; exact hn), (grownBy_putObj' A l o').size,
  fun k ⟨cs, t, fr, hk⟩ => (grownBy_putObj' A l o').block k (Array.getElem?_eq_some_iff.1 hk).1 (fun e => by cases e; rw [h] at hk; cases hk; cases hc)⟩

def roundW (Ix : World → Prop) (I : World → Prop) (A : World) : Exit → Act → World → Prop
 | .normal, _, B => B = A ∧ I A
 | .ret, _, B => Ix B ∧ KeepsOthers A B
 | _, _, _ => False

theorem wpIn_range_w {P : Program} {n : Nat} {g : Operand} {ps : Array Tmp} {assign body : Code} {Q : Exit → Act → World → Prop} {a : Act} {w : World} {gf : Nat} {lb : Array Value}
  (hg : a.eval g = .func (.func gf) #[] lb) (eg : ∀ args w, (callFunc gf args).run P w = .ok (.enter gf args) w)
  (Ok : Int → Array Value → World → Prop) (N : Int) (Ix : World → Prop) (hOk : ∀ k args A B, Ok k args A → KC w.heap.size A B → Ok k args B) (hIx : ∀ A B, Ix A → KC w.heap.size A B → Ix B)
  (hseq : ∀ (ll : Nat) (J : Int → World → Prop) (Jx : World → Prop) (W : World), Below w.heap.size w W → (∀ k A B, J k A → Below A.heap.size A B → J k B) →
    (∀ k args A, 0 ≤ k → k < N → J k A → Below w.heap.size w A → Ok k args A → args.size = ps.size → YieldAt Fence.wide 0 P ll args A (fun e B => (e = .returned (.bool true) ∧ J (k + 1) B ∧ KC w.heap.size A B) ∨ (e = .returned (.bool false) ∧ Jx B))) → J 0 W →
    Calls P gf (#[.func (.yield ll) #[] #[]] ++ lb) W (fun e W' => (∃ v, e = .returned v) ∧ (J N W' ∨ Jx W')))
  (I : Int → World → Prop) (hI : ∀ k A B, I k A → KC w.heap.size A B → I k B) (h0 : I 0 w)
  (a₁ : Array Value → Act)
  (hassign : ∀ (ll : Nat) (k : Int) args (A : World) (K : Act → World → Prop), Ok k args A → K (a₁ args) A → assign.wpIn (Fence.wide.inRound ll) 0 P (Exit.then K (fun _ _ _ => False)) { tmps := (ps.zip args).foldl (fun t (p, v) => t.setIfInBounds p v) a.tmps, defers := [] } A)
  (hbody : ∀ (ll : Nat) (k : Int) args (A : World), 0 ≤ k → k < N → I k A → Ok k args A → body.wpIn (Fence.wide.inRound ll) 0 P (roundW Ix (I (k + 1)) A) (a₁ args) A)
  (hdone : ∀ W, I N W → Below w.heap.size w W → W.heap[w.heap.size]? = some (.deferred (some [])) → Q .normal { a with defers := { target := .collected w.heap.size, args := #[] } :: a.defers } W)
  (hstop : ∀ W, Ix W → W.heap[w.heap.size]? = some (.deferred (some [])) → Code.ret.wpIn Fence.wide n P Q { a with defers := { target := .collected w.heap.size, args := #[] } :: a.defers } W) :
  (Code.rangeFunc g ps assign body).wpIn Fence.wide n P Q a w := by
 refine wpIn_rangeFunc ?_
 intro fn _
 obtain ⟨rec, hrec⟩ : ∃ rec : LoopState → Option Code → Loop, rec = fun st pe => { state := st, pending := pe, fn, tmps := a.tmps, params := ps, assign, body, defers := w.heap.size } := ⟨_, rfl⟩
 obtain ⟨W1, hW1⟩ : ∃ W1, (w.alloc (.deferred (some []))).alloc (.loop (rec .ready none)) = W1 := ⟨_, rfl⟩
 have hb1 : Below w.heap.size w W1 := by rw [← hW1]; exact grow_alloc _ (grow_alloc _ (grow_refl w))
 have hD1 : W1.heap[w.heap.size]? = some (.deferred (some [])) := by
  rw [← hW1]
  exact (Below.heap_alloc _ _ _ (by simp)).trans (World.alloc_heap_new w _)
 have hL1 : W1.heap[w.heap.size + 1]? = some (.loop (rec .ready none)) := by
  rw [← hW1]
  have := World.alloc_heap_new (w.alloc (.deferred (some []))) (.loop (rec .ready none))
  rwa [World.size_alloc] at this
 refine ⟨w.heap.size + 1, [{ target := .collected w.heap.size, args := #[] }], W1, { target := .fn (.func gf) lb, args := #[.func (.yield (w.heap.size + 1)) #[] #[]] }, W1, gf, #[.func (.yield (w.heap.size + 1)) #[] #[]] ++ lb, W1,
  by rw [← hW1, hrec]; exact run_enterLoop_outer _ _ _ _ _, by simp only [resolve, hg]; simp [go_sem], fun _ _ => trivial, by simp [invoke, go_sem, eg], (fun h => nomatch h), ?_⟩
 refine callsIn_wide.2 ((hseq (w.heap.size + 1)
  (fun k W => I k W ∧ Below w.heap.size w W ∧ W.heap[w.heap.size + 1]? = some (.loop (rec .ready none)) ∧ W.heap[w.heap.size]? = some (.deferred (some [])))
  (fun W => Ix W ∧ W.heap[w.heap.size + 1]? = some (.loop (rec .done (some .ret))) ∧ W.heap[w.heap.size]? = some (.deferred (some [])))
  W1 hb1 ?_ ?_ ⟨hI _ _ _ h0 (KC.of_below (Nat.le_refl _) hb1), hb1, hL1, hD1⟩).mono ?_)
 ·rintro k A B ⟨i1, i2, i3, i4⟩ hb
  have s := i2.size
  exact ⟨hI _ _ _ i1 (KC.of_below s hb), i2.trans (hb.mono s), (hb.block _ (Array.getElem?_eq_some_iff.1 i3).1).trans i3, (hb.block _ (Array.getElem?_eq_some_iff.1 i4).1).trans i4⟩
 ·rintro k args A hk0 hkN ⟨i1, i2, i3, i4⟩ hbA hok hsz
  have hy := run_yield (P := P) (args := args) i3 (by rw [hrec]; exact hsz)
  rw [hrec] at hy
  refine ⟨fn, _, assign, body, hy, roundIn_of_wpIn trivial (hassign _ k args A _ hok ?_)⟩
  clear hy
  have hbr := run_beginRound (P := P) i3 (by rw [hrec])
  have hlt : w.heap.size + 1 < A.heap.size := (Array.getElem?_eq_some_iff.1 i3).1
  have kc : KC w.heap.size A (A.putObj (w.heap.size + 1) (.loop { rec .ready none with state := .busy })) := KC.putObj (by omega) i3 rfl
  refine ⟨_, hbr, ?_⟩
  have hl2 : (A.putObj (w.heap.size + 1) (.loop { rec .ready none with state := .busy })).heap[w.heap.size + 1]? = some (.loop { rec .ready none with state := .busy }) := World.putObj_heap_same hlt
  have hd2 : (A.putObj (w.heap.size + 1) (.loop { rec .ready none with state := .busy })).heap[w.heap.size]? = some (.deferred (some [])) := (World.putObj_heap_other (by omega)).trans i4
  have i5 := hI _ _ _ i1 kc
  have ok2 := hOk _ _ _ _ hok kc
  have b2 := hbA.trans kc.below
  generalize A.putObj (w.heap.size + 1) (.loop { rec .ready none with state := .busy }) = A2 at *
  refine wpIn_mono (hbody _ k args A2 hk0 hkN i5 ok2) ?_
  rintro e a3 B hp
  cases e with
  | normal =>
    obtain ⟨e0, hi⟩ : B = A2 ∧ I (k + 1) A2 := hp
    obtain rfl : B = A2 := e0
    have hr := run_endRound (P := P) none hl2
    have kc2 : KC w.heap.size B (B.putObj (w.heap.size + 1) (.loop (rec .ready none))) := KC.putObj (by omega) hl2 rfl
    rw [hrec] at hr
    refine ⟨_, _, hr, .inl ⟨rfl, ⟨hI _ _ _ hi ?_, ?_, ?_, ?_⟩, ?_⟩⟩
    ·rw [hrec] at kc2; exact kc2
    ·rw [hrec] at kc2; exact b2.trans kc2.below
    ·rw [hrec]; exact World.putObj_heap_same (Array.getElem?_eq_some_iff.1 hl2).1
    ·exact (World.putObj_heap_other (by omega)).trans hd2
    ·rw [hrec] at kc2; exact kc.trans kc2
  | ret =>
    obtain ⟨hx, hko⟩ := hp
    have hl3 := hko.same _ _ hl2 rfl
    have hr := run_endRound (P := P) (some .ret) hl3
    have kc2 : KC w.heap.size B (B.putObj (w.heap.size + 1) (.loop (rec .done (some .ret)))) := KC.putObj (by omega) hl3 rfl
    rw [hrec] at hr
    refine ⟨_, _, hr, .inr ⟨rfl, hIx _ _ hx ?_, ?_, ?_⟩⟩
    ·rw [hrec] at kc2; exact kc2
    ·rw [hrec]; exact World.putObj_heap_same (Array.getElem?_eq_some_iff.1 hl3).1
    ·exact (World.putObj_heap_other (by omega)).trans (hko.same _ _ hd2 rfl)
  | exit id => exact hp.elim
  | goto t => exact hp.elim
  | panic ch => exact hp.elim
  | outgrown => exact hp.elim
 ·rintro e W2 ⟨⟨v, rfl⟩, (⟨i1, i2, i3, i4⟩ | ⟨i1, i3, i4⟩)⟩
  ·have hr := run_endLoop (P := P) i3 (by rw [hrec]; simp)
   have kc2 : KC w.heap.size W2 (W2.putObj (w.heap.size + 1) (.loop { rec .ready none with state := .exhausted })) := KC.putObj (by omega) i3 rfl
   rw [hrec] at hr kc2
   exact ⟨none, _, hr, hdone _ (hI _ _ _ i1 kc2) (i2.trans kc2.below) ((World.putObj_heap_other (by omega)).trans i4)⟩
  ·have hr := run_endLoop (P := P) i3 (by rw [hrec]; simp)
   have kc2 : KC w.heap.size W2 (W2.putObj (w.heap.size + 1) (.loop { rec .done (some .ret) with state := .exhausted })) := KC.putObj (by omega) i3 rfl
   rw [hrec] at hr kc2
   exact ⟨some .ret, _, hr, hstop _ (hIx _ _ i1 kc2) ((World.putObj_heap_other (by omega)).trans i4)⟩

attribute [local go_sem] Oper.semAt_some

theorem laidAll_c (a b : Option Addr) (n m c d : Nat) (w : World) : Calls Tryz.prog 185 #[.slice a n c, .slice b m d] w (fun e W => e = .returned (.func (.func 231) #[] #[.pointer (some ⟨w.heap.size + 1, 0, none⟩), .pointer (some ⟨w.heap.size, 0, none⟩)]) ∧ W = (w.alloc (.cells #[.slice a n c] 27)).alloc (.cells #[.slice b m d] 28)) := by
 go_enter Tryz.func185, Tryz.ntmps185
 go_wp2
 go_ret
 exact ⟨rfl, rfl⟩
theorem enters_laidAll1 : Enters 231 := enters_of Tryz.func231 (by decide) (by simp [Tryz.f231])

def RetPts (w : World) (l : List Pt) (err : Int) (e : Ending) (w' : World) : Prop := ∃ v, e = .returned (.tuple #[v, .int .i64 err]) ∧ Pts w' v l ∧ ∃ x, w' = ext w x
theorem pts_nil (w : World) : Pts w (.slice none 0 0) [] := ⟨none, 0, rfl, Nat.le_refl _, by decide, fun i hi => absurd hi (Nat.not_lt_zero _)⟩
def pathE (l : List Br) (rs : List Rn) (i : Int) : List Pt × Int := if laidB l rs = true then (if 0 ≤ i ∧ i < countS rs then (pathI l rs i, 0) else ([], 2)) else ([], 1)

theorem Pts.setOther {W : World} {g n c : Nat} {l : List Pt} (h : Pts W (.slice (some ⟨g, 0, none⟩) n c) l) {a : Addr} (hne : a.block ≠ g) (u : Value) : Pts (W.setCell a u) (.slice (some ⟨g, 0, none⟩) n c) l := by
 obtain ⟨a', cap, e, h2, h3, h4⟩ := h
 cases e
 have hc : ∀ i v, W.cell? ⟨g, i, none⟩ = some v → (W.setCell a u).cell? ⟨g, i, none⟩ = some v := fun i v hv => (World.cell?_of_block (a := ⟨g, i, none⟩) (Below.heap_setCell W a u g (Ne.symm hne))).trans hv
 refine ⟨_, _, rfl, h2, h3, fun i hi => ?_⟩
 obtain ⟨b, off, eb, p0, p1, p2⟩ := h4 i hi
 cases eb
 exact ⟨g, 0, rfl, hc _ _ p0, hc _ _ p1, hc _ _ p2⟩
structure PathInv (w : World) (i k : Int) (B : World) : Prop where
 below : Below w.heap.size w B
 num : B.cell? ⟨w.heap.size, 0, none⟩ = some (.int .i64 i)
 res : Blk B (w.heap.size + 1) #[.slice none 0 0] 207
 err : Blk B (w.heap.size + 1 + 1) #[.int .i64 0] 44
 none : ¬ (0 ≤ i ∧ i < k)

set_option maxRecDepth 100000 in
set_option maxHeartbeats 4000000 in
theorem path_c (l : List Br) (rs : List Rn) (v u : Value) (i : Int) (w : World) (hl : Bars w v l) (hr : Runs w u rs) :
  Calls Tryz.prog 128 #[v, u, .int .i64 i] w (RetPts w (pathE l rs i).1 (pathE l rs i).2) := by
 have HL := hd0 hl
 have HR := hd0 hr
 obtain ⟨va, vc, rfl, _, _, _⟩ := hl.shape
 obtain ⟨ua, uc, rfl, _, _, _⟩ := hr.shape
 clear hl hr
 cases hv : laidB l rs
 ·have HP := hd0 (show pathE l rs i = ([], 1) by unfold pathE; rw [hv]; rfl)
  have HV := hd0 hv
  clear hv
  go_enter Tryz.func128, Tryz.ntmps128
  go_wp2_with fail
  go_at_call 84; refine (laidValid_v l rs _ _ _ HV.out _ (HL.out.below gro) (HR.out.below gro)).mono ?_; rintro e w' ⟨rfl, x1, rfl⟩
  go_wp2
  refine bodyPost_ret (v := .tuple #[.slice none 0 0, .int .i64 1]) (by simp [results, Tryz.results128, go_sem]) rfl ?_
  rw [HP.out]
  exact ⟨_, rfl, pts_nil _, ext_of gro⟩
 ·have HP := hd0 (show pathE l rs i = (if 0 ≤ i ∧ i < countS rs then (pathI l rs i, 0) else ([], 2)) by unfold pathE; rw [hv]; rfl)
  have HV := hd0 hv
  clear hv
  refine (callsIn_wide (n := 3)).1 (callsIn_of_wp_marks Tryz.func128 rfl trivial ?_ rfl)
  simp only [Tryz.ntmps128, List.size_toArray, List.length_cons, List.length_nil, Nat.reduceAdd, Nat.reduceSub, Array.replicate_succ, Array.replicate_zero, List.push_toArray, List.append_toArray, List.nil_append, List.cons_append]
  refine wpIn_wide.2 ?_
  go_wp2_with fail
  go_at_call 84; refine (laidValid_v l rs _ _ _ HV.out _ (HL.out.below gro) (HR.out.below gro)).mono ?_; rintro e w' ⟨rfl, x1, rfl⟩
  go_wp2_with fail
  go_at_call 185; refine (laidAll_c _ _ _ _ _ _ _).mono ?_; rintro e w' ⟨rfl, rfl⟩
  go_wp2_with fail
  obtain ⟨gB, hgB⟩ : ∃ g, g = w.heap.size + 1 + 1 + 1 + x1.heap.size := ⟨_, rfl⟩
  rw [← hgB]
  refine world_mask (fun W => Below w.heap.size w W ∧ W.cell? ⟨w.heap.size, 0, none⟩ = some (.int .i64 i) ∧ Blk W (w.heap.size + 1) #[.slice none 0 0] 207 ∧ Blk W (w.heap.size + 1 + 1) #[.int .i64 0] 44 ∧
   W.cell? ⟨gB, 0, none⟩ = some (.slice va l.length vc) ∧ W.cell? ⟨gB + 1, 0, none⟩ = some (.slice ua rs.length uc)) _ ⟨?_, ?_, ?_, ?_, ?_, ?_⟩ ?_
  ·(repeat (first | exact grow_refl _ | refine grow_ext _ ?_ | refine grow_alloc _ ?_ | refine grow_drew ?_))
  ·simp [go_sem]
  ·exact (((Blk.alloc (Blk.new' (by simp) _ _) _).ext _).alloc _).alloc _
  ·exact ((Blk.ext (Blk.new' (by simp) _ _) _).alloc _).alloc _
  ·rw [hgB]; simp [go_sem]
  ·rw [hgB]; simp [go_sem]
  clear hgB
  rintro W0 ⟨hB0, hc0, hb1, hb2, hcb, hcr⟩
  have HB0 := hd0 hB0
  refine (wpIn_wide (n := 3)).1 (wpIn_range_w (gf := 231) (lb := #[.pointer (some ⟨gB + 1, 0, none⟩), .pointer (some ⟨gB, 0, none⟩)]) rfl enters_laidAll1
   (fun k args A => ∃ g n : Nat, args = #[.int .i64 k, .slice (some ⟨g, 0, none⟩) n n] ∧ W0.heap.size ≤ g ∧ Pts A (.slice (some ⟨g, 0, none⟩) n n) (pathI l rs k)) (countS rs)
   (fun B => Below w.heap.size w B ∧ ∃ v', Blk B (w.heap.size + 1) #[v'] 207 ∧ Blk B (w.heap.size + 1 + 1) #[.int .i64 0] 44 ∧ Pts B v' (pathI l rs i) ∧ 0 ≤ i ∧ i < countS rs)
   ?hOk ?hIx ?hseq
   (PathInv w i)
   ?hI ⟨hB0, hc0, hb1, hb2, by omega⟩
   (fun args => { tmps := #[.slice va l.length vc, .slice ua rs.length uc, .int .i64 i, undef, undef, .pointer (some ⟨w.heap.size, 0, none⟩), .pointer (some ⟨w.heap.size + 1, 0, none⟩), .pointer (some ⟨w.heap.size + 1 + 1, 0, none⟩), args.getD 0 undef, args.getD 1 undef, .slice va l.length vc, .slice ua rs.length uc, .bool true, .bool false, .slice va l.length vc, .slice ua rs.length uc,
     .func (.func 231) #[] #[.pointer (some ⟨gB + 1, 0, none⟩), .pointer (some ⟨gB, 0, none⟩)], args.getD 0 undef, args.getD 1 undef, undef, undef, undef, undef], defers := [] })
   ?hassign ?hbody ?hdone ?hstop)
  case hOk => rintro k args A B ⟨g, n, e, hg, hp⟩ hk; exact ⟨g, n, e, hg, hk.pts hp⟩
  case hIx =>
   rintro A B ⟨h1, v', h2, h3, h4, h5⟩ hk
   exact ⟨h1.trans (hk.below.mono HB0.out.size), v', hk.blk h2, hk.blk h3, hk.pts h4, h5⟩
  case hseq =>
   intro ll J Jx W hbW hJ hY hj0
   refine (laidAll1_c l rs (.slice va l.length vc) (.slice ua rs.length uc) ll 0 W0.heap.size (gB + 1) gB W hbW.size (fun W' h => HL.out.below (HB0.out.trans ((hbW.trans h).mono HB0.out.size))) (fun W' h => HR.out.below (HB0.out.trans ((hbW.trans h).mono HB0.out.size))) HV.out
    (cell_below' hcr hbW) (cell_below' hcb hbW) J Jx hJ (fun k g n W' k0 k1 hj hb hgw hp => hY k _ W' k0 k1 hj (hbW.trans (hb.mono (Nat.le_refl _))) ⟨g, n, rfl, Nat.le_trans hbW.size hgw, hp⟩ rfl) hj0).mono ?_
   rintro e W' ⟨rfl, h⟩
   exact ⟨⟨_, rfl⟩, h⟩
  case hI =>
   rintro k A B ⟨h1, h2, h3, h4, h5⟩ hk
   exact ⟨h1.trans (hk.below.mono HB0.out.size), hk.cell h2, hk.blk h3, hk.blk h4, h5⟩
  case hassign =>
   rintro ll k args A K ⟨g, n, rfl, hg, hp⟩ hK
   gi_wp2
   exact hK
  case hbody =>
   rintro ll k args A hk0 hkN ⟨h1, h2, h3, h4, h5⟩ ⟨g, n, rfl, hg, hp⟩
   have hw0 := HB0.out.size
   have hlt2 := hb2.lt
   have e1 : A.cell? ⟨w.heap.size + 1, 0, none⟩ = some (.slice none 0 0) := h3.cell 0
   have e2 : A.cell? ⟨w.heap.size + 1 + 1, 0, none⟩ = some (.int .i64 0) := h4.cell 0
   have f1 := h3.frozen 0
   have f2 := h4.frozen 0
   have H1 := hd0 h1
   have H3 := hd0 h3
   have H4 := hd0 h4
   have H5 := hd0 h5
   have HPP := hd0 hp
   by_cases hki : k = i
   ·have dk : (k == i) = true := by simpa using hki
    have HKI := hd0 hki
    clear h1 h3 h4 h5 hp hki
    gi_wp2
    refine ⟨⟨(H1.out.setCell (p := ⟨w.heap.size + 1, 0, none⟩) (by simp) _).setCell (p := ⟨w.heap.size + 1 + 1, 0, none⟩) (by simp; omega) _, .slice (some ⟨g, 0, none⟩) n n, ?_, ?_, ?_, ?_, ?_⟩, ?_⟩
    ·exact (H3.out.set 0 _).other (a := ⟨w.heap.size + 1 + 1, 0, none⟩) (by simp) _
    ·exact (H4.out.other (a := ⟨w.heap.size + 1, 0, none⟩) (by simp) _).set 0 _
    ·rw [← HKI.out]; exact (HPP.out.setOther (a := ⟨w.heap.size + 1, 0, none⟩) (by simp; omega) _).setOther (a := ⟨w.heap.size + 1 + 1, 0, none⟩) (by simp; omega) _
    ·rw [← HKI.out]; exact hk0
    ·rw [← HKI.out]; exact hkN
    ·exact (KeepsOthers.setCell _ _ _).trans (KeepsOthers.setCell _ _ _)
   ·have dk : (k == i) = false := by simpa using hki
    have HKI := hd0 hki
    clear h1 h3 h4 h5 hp hki
    gi_wp2
    exact ⟨rfl, H1.out, h2, H3.out, H4.out, by have := H5.out; have := HKI.out; omega⟩
  case hdone =>
   rintro W ⟨h1, h2, h3, h4, h5⟩ hbW hD
   rw [if_neg h5] at HP
   have e1 : W.cell? ⟨w.heap.size + 1, 0, none⟩ = some (.slice none 0 0) := h3.cell 0
   have e2 : W.cell? ⟨w.heap.size + 1 + 1, 0, none⟩ = some (.int .i64 0) := h4.cell 0
   have f1 := h3.frozen 0
   have f2 := h4.frozen 0
   have hD2 : ((W.setCell ⟨w.heap.size + 1, 0, none⟩ (.slice none 0 0)).setCell ⟨w.heap.size + 1 + 1, 0, none⟩ (.int .i64 2)).heap[W0.heap.size]? = some (.deferred (some [])) :=
    ((KeepsOthers.setCell _ _ _).trans (KeepsOthers.setCell _ _ _)).same _ _ hD rfl
   have HK := hd0 hD2
   have HB := hd0 ((h1.setCell (p := ⟨w.heap.size + 1, 0, none⟩) (by simp) (.slice none 0 0)).setCell (p := ⟨w.heap.size + 1 + 1, 0, none⟩) (by simp; omega) (.int .i64 2))
   have HB2 : Hid (Below w.heap.size w (((W.setCell ⟨w.heap.size + 1, 0, none⟩ (.slice none 0 0)).setCell ⟨w.heap.size + 1 + 1, 0, none⟩ (.int .i64 2)).putObj W0.heap.size (.deferred none))) := HB.out.trans (belowK_b (w := w) (Nat.le_refl _) _ W0.heap.size _ _ HB0.out.size hD2 rfl rfl)
   have hkc : KC W0.heap.size _ (((W.setCell ⟨w.heap.size + 1, 0, none⟩ (.slice none 0 0)).setCell ⟨w.heap.size + 1 + 1, 0, none⟩ (.int .i64 2)).putObj W0.heap.size (.deferred none)) := KC.putObj (Nat.le_refl _) hD2 rfl
   have D1 := hd0 ((hkc.blk ((h3.set 0 (.slice none 0 0)).other (a := ⟨w.heap.size + 1 + 1, 0, none⟩) (by simp) (.int .i64 2))).cell 0)
   have D2 := hd0 ((hkc.blk ((h4.other (a := ⟨w.heap.size + 1, 0, none⟩) (by simp) (.slice none 0 0)).set 0 (.int .i64 2))).cell 0)
   have H3 := hd0 h3
   have H4 := hd0 h4
   clear h1 h2 h3 h4 h5 hbW hD hD2 hB0 hc0 hb1 hb2 hcb hcr hkc
   go_wp2
   refine ⟨by simp, .inl ⟨_, _, rfl, run_takeDeferred HK.out, ?_⟩⟩
   have d1 := D1.out
   have d2 := D2.out
   refine ⟨.tuple #[.slice none 0 0, .int .i64 2], by simp [results, Tryz.results128, go_sem, d1, d2], ?_⟩
   rw [HP.out]
   exact ⟨_, rfl, pts_nil _, ext_of HB2.out⟩
  case hstop =>
   rintro W ⟨h1, v', h2, h3, h4, h5, h6⟩ hD
   rw [if_pos ⟨h5, h6⟩] at HP
   have e1 : W.cell? ⟨w.heap.size + 1, 0, none⟩ = some v' := h2.cell 0
   have e2 : W.cell? ⟨w.heap.size + 1 + 1, 0, none⟩ = some (.int .i64 0) := h3.cell 0
   obtain ⟨a', c', rfl, _, _, _⟩ := h4.shape
   have HK := hd0 hD
   have HB2 : Hid (Below w.heap.size w (W.putObj W0.heap.size (.deferred none))) := h1.trans (belowK_b (w := w) (Nat.le_refl _) _ W0.heap.size _ _ HB0.out.size hD rfl rfl)
   have HKC : Hid (KC W0.heap.size W (W.putObj W0.heap.size (.deferred none))) := KC.putObj (Nat.le_refl _) hD rfl
   have H4 := hd0 h4
   clear hD hB0 hc0 hb1 hb2 hcb hcr h4
   refine wpIn_wide.2 ?_
   go_wp2
   refine ⟨by simp, .inl ⟨_, _, rfl, run_takeDeferred HK.out, ?_⟩⟩
   have d1 : (W.putObj W0.heap.size (.deferred none)).cell? ⟨w.heap.size + 1, 0, none⟩ = some (.slice a' (pathI l rs i).length c') := HKC.out.cell e1
   have d2 : (W.putObj W0.heap.size (.deferred none)).cell? ⟨w.heap.size + 1 + 1, 0, none⟩ = some (.int .i64 0) := HKC.out.cell e2
   refine ⟨.tuple #[.slice a' (pathI l rs i).length c', .int .i64 0], by simp [results, Tryz.results128, go_sem, d1, d2], ?_⟩
   rw [HP.out]
   exact ⟨_, rfl, HKC.out.pts H4.out, ext_of HB2.out⟩

end Go.Proofs.YtkjljneehgmmaaaGreat

namespace Go.Proofs.YtkjljneehgmmaaaGreat
open Go.RowKit
set_option maxRecDepth 20000

theorem between {a s j c m : Int} (h0 : -m ≤ a ∧ a ≤ m) (h1 : -m ≤ a + c * s ∧ a + c * s ≤ m) (hj : 0 ≤ j ∧ j ≤ c) : -m ≤ a + j * s ∧ a + j * s ≤ m := by
 rcases Int.le_total 0 s with hs | hs
 ·have p1 : 0 ≤ j * s := Int.mul_nonneg hj.1 hs
  have p2 : j * s ≤ c * s := Int.mul_le_mul_of_nonneg_right hj.2 hs
  omega
 ·have p1 : j * s ≤ 0 := Int.mul_nonpos_of_nonneg_of_nonpos hj.1 hs
  have p2 : c * s ≤ j * s := Int.mul_le_mul_of_nonpos_right hj.2 hs
  omega
theorem placeR_some {l : List Br} {rs : List Rn} (h : ∀ r ∈ rs, runB l r = true) {i : Int} (h0 : 0 ≤ i) (hi : i < countS rs) : ∃ r j, placeR rs i = some (r, j) ∧ r ∈ rs ∧ 0 ≤ j ∧ j < r.count := by
 induction rs generalizing i with
 | nil => simp only [countS] at hi; omega
 | cons r rs ih =>
   simp only [placeR]
   by_cases hlt : i < r.count
   ·rw [if_pos hlt]; exact ⟨r, i, rfl, List.mem_cons_self, h0, hlt⟩
   ·rw [if_neg hlt]
    simp only [countS] at hi
    obtain ⟨r', j, e, hm, hj⟩ := ih (fun x hx => h x (List.mem_cons_of_mem _ hx)) (i := i - r.count) (by omega) (by omega)
    exact ⟨r', j, e, List.mem_cons_of_mem _ hm, hj⟩
theorem laidL_near {l : List Br} {r : Rn} (h : runB l r = true) {j : Int} (h0 : 0 ≤ j) (hj : j < r.count) : ∀ p ∈ laidL (barOf l r.mark) r j, NearP p 1048576 := by
 rw [runB_eq] at h
 simp only [Bool.and_eq_true] at h
 obtain ⟨_, _, h3, h4⟩ := h
 rw [List.all_eq_true] at h3 h4
 intro p hp
 unfold laidL at hp h3 h4
 obtain ⟨q, hq, rfl⟩ := List.mem_map.1 hp
 obtain ⟨a1, a2, a3⟩ := near_iff.1 (h3 _ (List.mem_map.2 ⟨q, hq, rfl⟩))
 obtain ⟨b1, b2, b3⟩ := near_iff.1 (h4 _ (List.mem_map.2 ⟨q, hq, rfl⟩))
 unfold laidP at *
 simp only [Int.zero_mul, Int.add_zero] at a1 a2 a3 b1 b2 b3 ⊢
 have hc : 0 ≤ j ∧ j ≤ r.count - 1 := by omega
 exact ⟨between a1 b1 hc, between a2 b2 hc, between a3 b3 hc⟩
theorem pathI_near {l : List Br} {rs : List Rn} (h : laidB l rs = true) {i : Int} (h0 : 0 ≤ i) (hi : i < countS rs) : ∀ p ∈ pathI l rs i, NearP p 1048576 := by
 obtain ⟨r, j, e, hm, hj0, hj⟩ := placeR_some (laidB_iff.1 h).2.2.1 h0 hi
 unfold pathI
 rw [e]
 exact laidL_near ((laidB_iff.1 h).2.2.1 r hm) hj0 hj
theorem pathI_len (l : List Br) (rs : List Rn) (i : Int) : (pathI l rs i).length ≤ 7 := by
 unfold pathI
 split
 ·unfold laidL; rw [List.length_map]; exact (path_len _).2
 ·exact Nat.zero_le _

def ptB (p : Pt) : Bx := ⟨p.x, p.y, p.z, p.x, p.y, p.z⟩
def legB (p q : Pt) : Bx := ⟨min p.x q.x, min p.y q.y, min p.z q.z, max p.x q.x, max p.y q.y, max p.z q.z⟩
def legsP : List Pt → List Bx
 | p :: q :: l => legB p q :: legsP (q :: l)
 | _ => []
theorem legsP_snoc (l : List Pt) (p q : Pt) : legsP (l ++ [p, q]) = legsP (l ++ [p]) ++ [legB p q] := by
 induction l with
 | nil => rfl
 | cons a l ih =>
   cases l with
   | nil => rfl
   | cons b l =>
     simp only [List.cons_append, legsP] at ih ⊢
     rw [ih]
theorem legsP_take {l : List Pt} {k : Nat} (h1 : 1 ≤ k) (hk : k < l.length) : legsP (l.take (k + 1)) = legsP (l.take k) ++ [legB (l[k - 1]'(by omega)) l[k]] := by
 obtain ⟨j, rfl⟩ : ∃ j, k = j + 1 := ⟨k - 1, by omega⟩
 rw [List.take_succ_eq_append_getElem hk, List.take_succ_eq_append_getElem (i := j) (by omega), List.append_assoc]
 simp only [List.cons_append, List.nil_append, Nat.add_sub_cancel]
 exact legsP_snoc _ _ _
theorem legsP_len (l : List Pt) : (legsP l).length = l.length - 1 := by
 induction l with
 | nil => rfl
 | cons a l ih =>
   cases l with
   | nil => rfl
   | cons b l => simp only [legsP, List.length_cons] at ih ⊢; omega
theorem ptB_valid {p : Pt} (h : NearP p 1048576) : validB (ptB p) = true := by
 obtain ⟨h1, h2, h3⟩ := h
 rw [valid_iff]; unfold ptB; simp only; omega
theorem hull_two {p q : Pt} (hp : NearP p 1048576) (hq : NearP q 1048576) : hullR [ptB p, ptB q] = (legB p q, 0) := by
 unfold hullR
 simp only [List.all_cons, List.all_nil, ptB_valid hp, ptB_valid hq, Bool.and_true, if_true]
 simp [hullX, joinX, ptB, legB]
def legsI (l : List Br) (rs : List Rn) (i : Int) : List Bx := legsP (pathI l rs i)

theorem own_bxs {W : World} {M : Nat} {e : TypeId} {v : Value} {n : Nat} {l : List Bx} {b : Bx} (h : W.ownsRow M e 6 v (n + 1) (boxCells l ++ boxCells [b])) (hn : n = l.length) : W.ownsRow M e 6 v (l ++ [b]).length (boxCells (l ++ [b])) := by
 subst hn
 rw [boxCells_append, List.length_append]; exact h

theorem ext_grown2 {w A B : World} {row : Option Nat} (h : Below w.heap.size w A) (hg : A.grownBy B row) (hr : ∀ j, row = some j → w.heap.size ≤ j) : ∃ y, B = ext w y := ext_of (h.grown hg h.size hr)

set_option maxRecDepth 100000 in
set_option maxHeartbeats 2000000 in
theorem points_c (l : List Pt) (v : Value) (hlen : l.length ≤ 1000) (w : World) (hl : Pts w v l) :
  Calls Tryz.prog 130 #[v] w (fun e W => ∃ v', e = .returned v' ∧ W.ownsRow w.heap.size 40 6 v' (l.map ptB).length (boxCells (l.map ptB)) ∧ ∃ x, W = ext w x) := by
 obtain ⟨a, cap, rfl, h2, h3, h4⟩ := hl.shape
 have H4 := hd0 h4
 clear hl h4
 go_enter Tryz.func130, Tryz.ntmps130
 go_wp2_with fail
 go_loopw [3, 8] (fun v i wr => ∃ k : Nat, k ≤ l.length ∧ i = .int .i64 k ∧ (∃ x, wr = ext w x) ∧ wr.ownsRow w.heap.size 40 6 v k (boxCells ((l.take k).map ptB))) (fun _ i _ => l.length - (intOf i).toNat)
 case atStart => exact ⟨0, by omega, rfl, ext_of (Below.refl _ _), World.ownsRow_nil _ _ _ _⟩
 case round =>
  obtain ⟨k, hk, rfl, ⟨x, rfl⟩, hown⟩ := hrel
  have HO := hd0 hown
  obtain ⟨av, cv, rfl, hv1, hv2, _⟩ := own_shape hown
  have hv3 : cv ≤ 9223372036854775807 := hv2
  by_cases hlt : k < l.length
  ·obtain ⟨b, off, rfl, c0, c1, c2⟩ := H4.out k hlt
   have c0 := cell_ext_some c0 x
   have c1 := cell_ext_some c1 x
   have c2 := cell_ext_some c2 x
   have q1 : (0 : Int) ≤ (k : Int) := by omega
   have q2 : (k : Int) < (l.length : Int) := by omega
   have htk : (l.take (k + 1)).map ptB = (l.take k).map ptB ++ [ptB l[k]] := by rw [List.take_succ_eq_append_getElem hlt, List.map_append]; rfl
   have hln : k = ((l.take k).map ptB).length := by rw [List.length_map, List.length_take]; omega
   have HLN := hd0 hln
   obtain ⟨p, hp⟩ : ∃ p, l[k] = p := ⟨_, rfl⟩
   rw [hp] at c0 c1 c2 htk
   have HTK := hd0 htk
   clear hown hp htk hln
   go_wp2_with (at_builtin; refine app_own_b rfl _ _ 22 rfl 40 (.agg #[.int .i64 0, .int .i64 0, .int .i64 0, .int .i64 0, .int .i64 0, .int .i64 0]) 6 48 Tryz.underlying22 info_box' rfl (by decide) (w.heap.size) (.slice av k cv) (k) (boxCells ((l.take k).map ptB)) _ rfl ((HO.out.alloc _).alloc _) _ 1 1 (boxCells [ptB p]) rfl rfl (cells_new ?_ _ _ _ rfl) (boxCells_one _) (by omega) (by decide) ?_ ?_; (first | rfl | simp [size_ext]); (simp only [World.size_alloc, size_ext]; omega); intro v' w1 hown' hgrow; have HO2 := hd0 hown'; obtain ⟨a', c', rfl, _, hc2, -⟩ := own_shape hown'; have hc3 : c' ≤ 9223372036854775807 := hc2; have HGR := hd0 hgrow; clear hown' hgrow hc2)
   go_roundw
   case rel =>
    refine ⟨k + 1, by omega, by go_num, ?_, ?_⟩
    ·exact ext_grown2 (grow_alloc _ (grow_alloc _ (below_ext w x))) HGR.out (fun j e => (HO.out.lt j e).1)
    ·rw [HTK.out]
     have := own_bxs HO2.out HLN.out
     rw [List.length_append, ← HLN.out] at this
     exact this
   case measure => simp [intOf]; omega
  ·obtain rfl : k = l.length := by omega
   clear hown
   go_wp2
   go_ret
   exact ⟨_, rfl, by have := HO.out; rw [List.take_length] at this; rw [List.length_map]; exact this, ext_of gro⟩


def legsE (l : List Br) (rs : List Rn) (i : Int) : List Bx × Int := if laidB l rs = true then (if 0 ≤ i ∧ i < countS rs then (legsI l rs i, 0) else ([], 2)) else ([], 1)
def RetBxs (w : World) (l : List Bx) (err : Int) (e : Ending) (w' : World) : Prop :=
 ∃ v, e = .returned (.tuple #[v, .int .i64 err]) ∧ w'.ownsRow w.heap.size 40 6 v l.length (boxCells l) ∧ ∃ x, w' = ext w x

set_option maxRecDepth 100000 in
set_option maxHeartbeats 4000000 in
theorem legsLaid_c (l : List Br) (rs : List Rn) (v u : Value) (i : Int) (w : World) (hl : Bars w v l) (hr : Runs w u rs) :
  Calls Tryz.prog 65 #[v, u, .int .i64 i] w (RetBxs w (legsE l rs i).1 (legsE l rs i).2) := by
 have HP := hd0 (fun w hl hr => path_c l rs v u i w hl hr)
 have HL := hd0 hl
 have HR := hd0 hr
 clear hl hr
 by_cases hok : laidB l rs = true ∧ 0 ≤ i ∧ i < countS rs
 ·obtain ⟨hv, h0, hi⟩ := hok
  have HE := hd0 (show legsE l rs i = (legsI l rs i, 0) by unfold legsE; rw [if_pos hv, if_pos ⟨h0, hi⟩])
  rw [show pathE l rs i = (pathI l rs i, 0) by unfold pathE; rw [if_pos hv, if_pos ⟨h0, hi⟩]] at HP
  have hn := pathI_near hv h0 hi
  have hlen := pathI_len l rs i
  have HI := hd0 (show legsI l rs i = legsP (pathI l rs i) from rfl)
  obtain ⟨P, hP⟩ : ∃ P, pathI l rs i = P := ⟨_, rfl⟩
  rw [hP] at HP HI hn hlen
  have HN := hd0 hn
  clear hv h0 hi hn hP
  go_enter Tryz.func65, Tryz.ntmps65
  go_wp2_with fail
  go_at_call 128; refine (HP.out _ (HL.out.below gro) (HR.out.below gro)).mono ?_; rintro e w' ⟨v8, rfl, hpt, x1, rfl⟩
  obtain ⟨a, cap, rfl, h2, h3, h4⟩ := hpt.shape
  have H4 := hd0 h4
  have HPT := hd0 hpt
  clear hpt h4
  go_wp2_with fail
  go_loopw [10, 11] (fun v i wr => ∃ k : Nat, 1 ≤ k ∧ (k ≤ P.length ∨ k = 1) ∧ i = .int .i64 k ∧ (∃ x, wr = ext (ext w x1) x) ∧ wr.ownsRow (ext w x1).heap.size 40 6 v (k - 1) (boxCells (legsP (P.take k)))) (fun _ i _ => P.length - (intOf i).toNat)
  case atStart => exact ⟨1, by omega, .inr rfl, by go_num, ext_of (Below.refl _ _), by cases P with | nil => exact World.ownsRow_nil _ _ _ _ | cons p P => exact World.ownsRow_nil _ _ _ _⟩
  case round =>
   obtain ⟨k, hk1, hk, rfl, ⟨x, rfl⟩, hown⟩ := hrel
   have HO := hd0 hown
   obtain ⟨av, cv, rfl, hv1, hv2, -⟩ := own_shape hown
   have hv3 : cv ≤ 9223372036854775807 := hv2
   by_cases hlt : k < P.length
   ·have q1 : (1 : Int) ≤ (k : Int) := by omega
    have q2 : (k : Int) < (P.length : Int) := by omega
    obtain ⟨b, off, rfl, hp0⟩ := H4.out (k - 1) (by omega)
    have q3 : 0 ≤ (k : Int) - 1 := by omega
    have q4 : (k : Int) - 1 ≤ (k : Int) + 1 := by omega
    have q5 : (k : Int) + 1 ≤ (cap : Int) := by omega
    have q6 : ((k : Int) + 1).toNat = k + 1 := by omega
    have hpair : Pts (ext (ext w x1) x) (.slice (some ⟨b, off + (k - 1) * 3, none⟩) 2 (cap - (k - 1))) [P[k - 1], P[k]] := by
     refine ⟨_, _, rfl, by simp; omega, by omega, fun j hj => ⟨b, _, rfl, ?_⟩⟩
     obtain ⟨b', off', e', hq0⟩ := H4.out k hlt
     cases e'
     rcases (show j = 0 ∨ j = 1 by simp at hj; omega) with rfl | rfl
     ·exact hp0.ext x
     ·rw [show off + (k - 1) * 3 + 1 * 3 = off + k * 3 by omega]; exact hq0.ext x
    have hlt2 := legsP_take hk1 hlt
    have hpn := HN.out _ (List.getElem_mem (show k - 1 < P.length by omega))
    have hqn := HN.out _ (List.getElem_mem hlt)
    generalize P[k - 1] = p at *
    generalize P[k] = q at *
    have HPA := hd0 hpair
    have HLT := hd0 hlt2
    have hll := legsP_len (P.take k)
    rw [List.length_take] at hll
    have HLL := hd0 (show k - 1 = (legsP (P.take k)).length by omega)
    have HH := hd0 (fun v w hl => Hull_c [ptB p, ptB q] v w hl)
    rw [hull_two hpn hqn] at HH
    generalize legB p q = L at *
    simp only at HH
    clear hown hpair hlt2 hpn hqn hp0 hll
    go_wp2_with fail
    rw [show k + 1 - (k - 1) = 2 by omega]
    go_at_call 130; refine (points_c [p, q] _ (by simp) _ HPA.out).mono ?_; rintro e w' ⟨v2, rfl, hown2, x2, rfl⟩
    have HO3 := hd0 (Boxes.of_own hown2)
    clear hown2
    go_wp2_with fail
    go_at_call 129; refine (HH.out _ _ HO3.out).mono ?_; rintro e w' ⟨rfl, x3, rfl⟩
    go_wp2_with (at_builtin; refine app_own_b rfl _ _ 22 rfl 40 (.agg #[.int .i64 0, .int .i64 0, .int .i64 0, .int .i64 0, .int .i64 0, .int .i64 0]) 6 48 Tryz.underlying22 info_box' rfl (by decide) ((ext w x1).heap.size) (.slice av (k - 1) cv) (k - 1) (boxCells (legsP (P.take k))) _ rfl (((own_ext (own_ext HO.out _) _).alloc _).alloc _) _ 1 1 (boxCells [L]) rfl rfl (cells_new ?_ _ _ _ rfl) (boxCells_one _) (by omega) (by decide) ?_ ?_; (first | rfl | simp [size_ext]); (simp only [World.size_alloc, size_ext]; omega); intro v' w1 hown' hgrow; have HO2 := hd0 hown'; obtain ⟨a', c', rfl, _, hc2, -⟩ := own_shape hown'; have hc3 : c' ≤ 9223372036854775807 := hc2; have HGR := hd0 hgrow; clear hown' hgrow hc2)
    go_roundw
    case rel =>
     refine ⟨k + 1, by omega, .inl (by omega), by go_num, ?_, ?_⟩
     ·exact ext_grown2 (w := ext w x1) (grow_alloc _ (grow_alloc _ (grow_ext _ (grow_ext _ (below_ext _ _))))) HGR.out (fun j e => (HO.out.lt j e).1)
     ·rw [HLT.out]
      have := own_bxs HO2.out HLL.out
      rw [List.length_append, ← HLL.out, List.length_singleton, show k - 1 + 1 = k by omega] at this
      rw [show k + 1 - 1 = k by omega]
      exact this
    case measure => simp [intOf]; omega
   ·have hkl : P.length ≤ k := by omega
    have HF := hd0 (show legsP (P.take k) = legsP P by rw [List.take_of_length_le hkl])
    have hll := legsP_len P
    have HLL := hd0 (show k - 1 = (legsP P).length by omega)
    clear hown hll
    go_wp2
    go_ret2
    rw [HE.out]
    exact ⟨_, rfl, by rw [HI.out, ← HLL.out, ← HF.out]; exact own_mono HO.out (by simp only [size_ext]; omega), ext_of gro⟩
 ·have HE := hd0 (show legsE l rs i = ([], (pathE l rs i).2) ∧ (pathE l rs i).1 = [] ∧ (pathE l rs i).2 ≠ 0 by
   unfold legsE pathE
   by_cases hv : laidB l rs = true
   ·have : ¬ (0 ≤ i ∧ i < countS rs) := fun h => hok ⟨hv, h⟩
    rw [if_pos hv, if_neg this, if_pos hv, if_neg this]; simp
   ·rw [if_neg hv, if_neg hv]; simp)
  obtain ⟨e1, e2, e3⟩ := HE.out
  rw [e2] at HP
  rw [e1]
  generalize (pathE l rs i).2 = E at *
  have d1 : (E != 0) = true := by simpa using e3
  clear hok HE e1 e2 e3
  go_enter Tryz.func65, Tryz.ntmps65
  go_wp2_with fail
  go_at_call 128; refine (HP.out _ (HL.out.below gro) (HR.out.below gro)).mono ?_; rintro e w' ⟨v8, rfl, hpt, x1, rfl⟩
  clear hpt
  go_wp2
  go_ret2
  exact ⟨_, rfl, World.ownsRow_nil _ _ _ _, ext_of gro⟩

end Go.Proofs.YtkjljneehgmmaaaGreat

