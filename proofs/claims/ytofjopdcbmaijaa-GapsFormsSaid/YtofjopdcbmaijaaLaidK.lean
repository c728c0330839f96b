/- All laid bars, one by one: laid.all$1. -/
import Derived.Test.YtofjopdcbmaijaaLaidJ
import Derived.Test.YtofjopdcbmaijaaYield
namespace Go.Proofs.Ytofjopdcbmaijaa
open Go.RowKit
set_option maxRecDepth 20000

/-- Whatever cells lie, lie as they lay, and all below n₀. -/
structure KC (n₀ : Nat) (W W' : World) : Prop where
  below : Below n₀ W W'
  size : W.heap.size ≤ W'.heap.size
  cells : ∀ k : Nat, (∃ cs t fr, W.heap[k]? = some (.cells cs t fr)) → W'.heap[k]? = W.heap[k]?
theorem KC.trans {n₀ : Nat} {A B C : World} (h : KC n₀ A B) (k : KC n₀ B C) : KC n₀ A C :=
  ⟨h.below.trans k.below, Nat.le_trans h.size k.size, fun b ⟨cs, t, fr, hc⟩ => by
    have h1 := h.cells b ⟨cs, t, fr, hc⟩
    exact (k.cells b ⟨cs, t, fr, by rw [h1, hc]⟩).trans h1⟩
theorem KC.of_below {n₀ : Nat} {A B : World} (hn : n₀ ≤ A.heap.size) (h : Below A.heap.size A B) : KC n₀ A B :=
  ⟨h.mono hn, h.size, fun k ⟨_, _, _, hc⟩ => h.block k (Array.getElem?_eq_some_iff.1 hc).1⟩
theorem KC.cell {n₀ : Nat} {W W' : World} (h : KC n₀ W W') {a : Addr} {v : Value} (hc : W.cell? a = some v) : W'.cell? a = some v := by
  refine (World.cell?_of_block (h.cells a.block ?_)).trans hc
  unfold World.cell? at hc
  split at hc
  · rename_i cs t fr hh; exact ⟨_, _, _, hh⟩
  · cases hc
theorem KC.blk {n₀ : Nat} {W W' : World} (h : KC n₀ W W') {k : Nat} {cs : Array Value} {t : TypeId} (hb : Blk W k cs t) : Blk W' k cs t := hb.of_block (h.cells k ⟨_, _, _, hb⟩)
theorem KC.pts {n₀ : Nat} {W W' : World} (h : KC n₀ W W') {v : Value} {l : List Pt} (hp : Pts W v l) : Pts W' v l := by
  obtain ⟨a, cap, h1, h2, h3, h4⟩ := hp
  exact ⟨a, cap, h1, h2, h3, fun i hi => let ⟨b, off, e, p0, p1, p2⟩ := h4 i hi; ⟨b, off, e, h.cell p0, h.cell p1, h.cell p2⟩⟩

theorem ptCells_set (L : List Pt) (i : Nat) (hi : i < L.length) (p : Pt) : (((ptCells L).set (i * 3) (.int .i64 p.x)).set (i * 3 + 1) (.int .i64 p.y)).set (i * 3 + 2) (.int .i64 p.z) = ptCells (L.set i p) := by
  induction L generalizing i with
  | nil => simp at hi
  | cons a L ih =>
    cases i with
    | zero => simp [ptCells]
    | succ i =>
      have := ih i (by simpa using hi)
      rw [show (i + 1) * 3 = i * 3 + 1 + 1 + 1 by omega]
      simp only [ptCells, List.flatMap_cons, List.cons_append, List.nil_append, List.set_cons_succ]
      simp only [ptCells] at this
      rw [this]
theorem Blk.set_pt {W : World} {k : Nat} {L : List Pt} {t : TypeId} (h : Blk W k (ptCells L).toArray t) (i : Nat) (hi : i < L.length) (p : Pt) :
    Blk (((W.setCell ⟨k, i * 3, none⟩ (.int .i64 p.x)).setCell ⟨k, i * 3 + 1, none⟩ (.int .i64 p.y)).setCell ⟨k, i * 3 + 2, none⟩ (.int .i64 p.z)) k (ptCells (L.set i p)).toArray t := by
  have := ((h.set (i * 3) (.int .i64 p.x)).set (i * 3 + 1) (.int .i64 p.y)).set (i * 3 + 2) (.int .i64 p.z)
  rw [← ptCells_set L i hi p]
  simpa using this
theorem below_set3 {wb wx : World} {g : Nat} (h : Below wb.heap.size wb wx) (hg : g = wb.heap.size) (i j k : Nat) (a b c : Value) : Below wb.heap.size wb (((wx.setCell ⟨g, i, none⟩ a).setCell ⟨g, j, none⟩ b).setCell ⟨g, k, none⟩ c) :=
  ((h.setCell (p := ⟨g, i, none⟩) (by show _ ≤ g; omega) a).setCell (p := ⟨g, j, none⟩) (by show _ ≤ g; omega) b).setCell (p := ⟨g, k, none⟩) (by show _ ≤ g; omega) c
theorem Blk.other3 {w : World} {k g : Nat} {cs : Array Value} {t : TypeId} (h : Blk w k cs t) (hne : k ≠ g) (i j l : Nat) (a b c : Value) : Blk (((w.setCell ⟨g, i, none⟩ a).setCell ⟨g, j, none⟩ b).setCell ⟨g, l, none⟩ c) k cs t :=
  ((h.other (a := ⟨g, i, none⟩) hne a).other (a := ⟨g, j, none⟩) hne b).other (a := ⟨g, l, none⟩) hne c
def fillL (f : Pt → Pt) (T : List Pt) (i : Nat) : List Pt := (T.take i).map f ++ List.replicate (T.length - i) ⟨0, 0, 0⟩
theorem fillL_length (f : Pt → Pt) (T : List Pt) {i : Nat} (h : i ≤ T.length) : (fillL f T i).length = T.length := by
  unfold fillL
  rw [List.length_append, List.length_map, List.length_take, List.length_replicate]; omega
theorem fillL_set (f : Pt → Pt) (T : List Pt) {i : Nat} (h : i < T.length) : (fillL f T i).set i (f T[i]) = fillL f T (i + 1) := by
  unfold fillL
  rw [show T.length - i = (T.length - (i + 1)) + 1 by omega, List.replicate_succ, List.take_succ_eq_append_getElem h, List.map_append]
  have hl : ((T.take i).map f).length = i := by rw [List.length_map, List.length_take]; omega
  rw [List.set_append_right _ _ (by omega), hl, Nat.sub_self, List.set_cons_zero, List.append_assoc]
  rfl
theorem fillL_zero (f : Pt → Pt) (T : List Pt) : fillL f T 0 = List.replicate T.length ⟨0, 0, 0⟩ := by simp [fillL]
theorem fillL_all (f : Pt → Pt) (T : List Pt) : fillL f T T.length = T.map f := by simp [fillL]

theorem ptCells_zero (n : Nat) : ptCells (List.replicate n ⟨0, 0, 0⟩) = List.replicate (n * 3) (.int .i64 0) := by
  induction n with
  | zero => rfl
  | succ n ih =>
    rw [List.replicate_succ, show (n + 1) * 3 = n * 3 + 1 + 1 + 1 by omega]
    simp only [List.replicate_succ]
    rw [← ih]; rfl
theorem made_pts (n : Nat) : madeCells (Value.cells (.agg #[.int .i64 0, .int .i64 0, .int .i64 0])) (n * 3) = (ptCells (List.replicate n ⟨0, 0, 0⟩)).toArray := by
  rw [ptCells_zero]
  apply Array.ext
  · simp [madeCells]
  · intro i h1 h2
    simp only [madeCells, Array.getElem_map, Array.getElem_range, List.getElem_toArray, List.getElem_replicate]
    have : i % 3 = 0 ∨ i % 3 = 1 ∨ i % 3 = 2 := by omega
    have hs : (Value.cells (.agg #[.int .i64 0, .int .i64 0, .int .i64 0])) = #[.int .i64 0, .int .i64 0, .int .i64 0] := by simp [Value.cells]
    rw [hs]
    rcases this with h | h | h <;> simp [h]
theorem run_mkpts (n : Nat) (hn : n ≤ 1000) (w : World) : (Instr.makeSlice 87 (.int .i64 (n : Int)) (.int .i64 (n : Int))).run Try.prog w = .ok (.slice (some ⟨w.heap.size, 0, none⟩) n n) (w.alloc (.cells (ptCells (List.replicate n ⟨0, 0, 0⟩)).toArray 39)) := by
  obtain ⟨i0, hi, hz0, hz1, hz2⟩ := info_parts info_pt
  have := run_makeSlice (P := Try.prog) w 87 39 i0 _ Try.underlying87 hi hz0 .i64 .i64 (n : Int) (n : Int) (by omega) (Int.le_refl _) (by rw [hz1]; simp; omega) (by rw [hz2]; omega) (by omega)
  rw [hz1] at this
  simp only [Int.toNat_natCast] at this
  rw [made_pts] at this
  exact this

theorem place_take {rs : List Rn} (h : ∀ r ∈ rs, 1 ≤ r.count) {j : Int} (hj : 0 ≤ j) (k : Nat) : placeR rs (countS (rs.take k) + j) = placeR (rs.drop k) j := by
  induction rs generalizing k with
  | nil => simp [placeR]
  | cons r rs ih =>
    cases k with
    | zero => simp [countS]
    | succ k =>
      have hr := h r List.mem_cons_self
      have h0 : ∀ (l : List Rn), (∀ r ∈ l, 1 ≤ r.count) → 0 ≤ countS l := by
        intro l
        induction l with
        | nil => intro _; exact Int.le_refl _
        | cons a l ih => intro h; have h1 := h a List.mem_cons_self; have h2 := ih fun x hx => h x (List.mem_cons_of_mem _ hx); simp only [countS]; omega
      have hc := h0 (rs.take k) fun x hx => h x (List.mem_cons_of_mem _ (List.mem_of_mem_take hx))
      simp only [List.take_succ_cons, countS, List.drop_succ_cons, placeR]
      rw [if_neg (by omega), show r.count + countS (rs.take k) + j - r.count = countS (rs.take k) + j by omega]
      exact ih (fun x hx => h x (List.mem_cons_of_mem _ hx)) k

/-- The path of the k-th laid bar. -/
def pathI (bars : List Br) (rs : List Rn) (i : Int) : List Pt := match placeR rs i with | some (r, j) => laidL (barOf bars r.mark) r j | none => []

set_option maxRecDepth 100000 in
set_option maxHeartbeats 8000000 in
theorem laidAll1_c (l : List Br) (rs : List Rn) (v u : Value) (ll m n₀ pr pb : Nat) (w : World) (hn : n₀ ≤ w.heap.size) (hbl : ∀ W', Below n₀ w W' → Bars W' v l) (hrl : ∀ W', Below n₀ w W' → Runs W' u rs) (hv : laidB l rs = true)
    (sr : w.cell? ⟨pr, 0, none⟩ = some u) (sb : w.cell? ⟨pb, 0, none⟩ = some v)
    (J : Int → World → Prop) (Jx : World → Prop) (hJ : ∀ k W W', J k W → Below W.heap.size W W' → J k W')
    (hY : ∀ (k : Int) (g n : Nat) W, 0 ≤ k → k < countS rs → J k W → Below n₀ w W → w.heap.size ≤ g → Pts W (.slice (some ⟨g, 0, none⟩) n n) (pathI l rs k) → YieldAt Fence.wide m Try.prog ll #[.int .i64 k, .slice (some ⟨g, 0, none⟩) n n] W (fun e W' => (e = .returned (.bool true) ∧ J (k + 1) W' ∧ KC n₀ W W') ∨ (e = .returned (.bool false) ∧ Jx W')))
    (h0 : J 0 w) :
    Calls Try.prog 90 #[.func (.yield ll) #[] #[], .pointer (some ⟨pr, 0, none⟩), .pointer (some ⟨pb, 0, none⟩)] w (fun e W' => e = .returned (.tuple #[]) ∧ (J (countS rs) W' ∨ Jx W')) := by
  have HBL := Lib.hid hbl
  have HRL := Lib.hid hrl
  have HV := Lib.hid hv
  have KJ := Lib.hid hJ
  have KY := Lib.hid hY
  have J0 := Lib.hid h0
  obtain ⟨a, cap, rfl, h2, h3, h4⟩ := (hrl w (Below.refl _ _)).shape
  clear hbl hrl hv hJ hY h0 h4
  go_enter Try.func90, Try.ntmps90
  go_wp2_with fail
  go_loopw [4, 14] (fun n i wr => ∃ k : Nat, k ≤ rs.length ∧ i = .int .i64 k ∧ n = .int .i64 (countS (rs.take k)) ∧ KC n₀ w wr ∧ J (countS (rs.take k)) wr) (fun _ i _ => rs.length - (intOf i).toNat)
  case atStart => exact ⟨0, by omega, rfl, rfl, KC.of_below hn (Below.refl _ _), J0.out⟩
  case round =>
    obtain ⟨wa, rfl⟩ : ∃ W : World, W = wr := ⟨_, rfl⟩
    obtain ⟨k, hk, rfl, rfl, hkc, hj⟩ := hrel
    have HKC := Lib.hid hkc
    have HJ := Lib.hid hj
    clear J0 hj
    by_cases hlt : k < rs.length
    · have q1 : (0 : Int) ≤ (k : Int) := by omega
      have q2 : (k : Int) < (rs.length : Int) := by omega
      obtain ⟨a', cap', e', _, _, hall⟩ := (HRL.out _ hkc.below).shape
      cases e'
      obtain ⟨_, b0, off, ea, hbr⟩ := hall k hlt
      subst ea
      have hrm := List.getElem_mem hlt
      have hct := count_take hlt
      have hcl := count_le HV.out (k + 1)
      have hc0 := count_le HV.out k
      have hdr := List.drop_eq_getElem_cons hlt
      obtain ⟨r, hr⟩ : ∃ r, rs[k] = r := ⟨_, rfl⟩
      rw [hr] at hbr hrm hct hdr
      have hrb := (laidB_iff.1 HV.out).2.2.1 r hrm
      have hcb := runB_count hrb
      obtain ⟨C, hC⟩ : ∃ C, countS (rs.take k) = C := ⟨_, rfl⟩
      rw [hC] at hct hc0 HJ ⊢
      have HC := Lib.hid hC
      have HCT := Lib.hid hct
      have hsum : 0 ≤ C ∧ C + r.count ≤ countS rs ∧ countS rs ≤ 2000 := by omega
      obtain ⟨s1, s2, s3⟩ := hsum
      obtain ⟨c0, c1, c2, c3, c4, c5, c6, c7, c8, c9⟩ := hbr
      have rr := hkc.cell sr
      have rb := hkc.cell sb
      have HDR := Lib.hid hdr
      have HRB := Lib.hid hrb
      clear hr hrm hct hcl hc0 hC hall hkc hdr hrb
      have H1 := Lib.hid HRB.out
      have htr : 0 ≤ findI l r.mark ∧ shapeB (barOf l r.mark) = true ∧ turnB r.tx r.ty = true := by
        have h := HRB.out
        rw [runB_eq] at h
        simp only [right1, Bool.and_eq_true, decide_eq_true_iff] at h
        exact ⟨h.1.1, schedB_shape (laidB_iff.1 HV.out).1 _ (bar_mem h.1.1), h.1.2.1⟩
      have HTU := Lib.hid (fun w hl => turned_c l v r htr.1 htr.2.1 htr.2.2 w hl)
      have htn := turnedL_near (r := r) htr.2.1 htr.2.2
      have htl := turnedL_len (barOf l r.mark) r
      obtain ⟨T, hT⟩ : ∃ T, turnedL (barOf l r.mark) r = T := ⟨_, rfl⟩
      rw [hT] at HTU htn htl
      have HT := Lib.hid hT
      have HTN := Lib.hid htn
      clear htr htn hT
      go_wp2_with fail
      go_at_call 52; refine (HTU.out _ (HBL.out _ (HKC.out.below.trans ((show Below wa.heap.size wa _ by (repeat (first | exact grow_refl _ | refine grow_ext _ ?_ | refine grow_alloc _ ?_ | refine grow_drew ?_))).mono (Nat.le_trans hn HKC.out.size))))).mono ?_; rintro e w' ⟨v7, rfl, hown, y1, rfl⟩
      have hpt := Pts.of_own hown
      obtain ⟨a7, cap7, rfl, l1, l2, l3⟩ := hpt.shape
      have HPT := Lib.hid hpt
      clear hown hpt l3
      go_wp2_with fail
      obtain ⟨g6, hg6⟩ : ∃ g6, g6 = wa.heap.size := ⟨_, rfl⟩
      refine world_mask (fun W => KC n₀ w W ∧ Blk W wa.heap.size (rnCells r) 41 ∧ Pts W (.slice a7 T.length cap7) T ∧ J C W) _ ⟨?_, ?_, ?_, ?_⟩ ?_
      · exact HKC.out.trans (KC.of_below (Nat.le_trans hn HKC.out.size) (by (repeat (first | exact grow_refl _ | refine grow_ext _ ?_ | refine grow_alloc _ ?_ | refine grow_drew ?_))))
      · exact Blk.ext (Blk.new' rfl _ _) _
      · exact HPT.out
      · exact KJ.out _ _ _ HJ.out (by (repeat (first | exact grow_refl _ | refine grow_ext _ ?_ | refine grow_alloc _ ?_ | refine grow_drew ?_)))
      rw [← hg6]
      clear hg6 c0 c1 c2 c3 c4 c5 c6 c7 c8 c9 rr rb HPT HJ HTU
      rintro W1 ⟨hk1, hb1, hp1, hj1⟩
      have HK1 := Lib.hid hk1
      have HB1 := Lib.hid hb1
      have HP1 := Lib.hid hp1
      have HJ1 := Lib.hid hj1
      clear hk1 hb1 hp1 hj1
      go_loopw [4, 23] (fun n i wr => ∃ j : Nat, (j : Int) ≤ r.count ∧ i = .int .i64 j ∧ n = .int .i64 (C + j) ∧ KC n₀ W1 wr ∧ J (C + j) wr) (fun _ i _ => r.count.toNat - (intOf i).toNat)
      case atStart => exact ⟨0, by omega, rfl, by simp, KC.of_below (Nat.le_trans hn HK1.out.size) (Below.refl _ _), by simpa using HJ1.out⟩
      case round =>
        obtain ⟨wb, rfl⟩ : ∃ W : World, W = wr := ⟨_, rfl⟩
        obtain ⟨j, hjc, rfl, rfl, hkc, hj⟩ := hrel
        have HKC2 := Lib.hid hkc
        have HJ2 := Lib.hid hj
        clear hkc hj HJ1
        by_cases hlt2 : (j : Int) < r.count
        · have q3 : (0 : Int) ≤ (j : Int) := by omega
          have hmk := run_mkpts T.length (by omega)
          go_wp2_with fail
          obtain ⟨gO, hgO⟩ : ∃ g, g = wb.heap.size := ⟨_, rfl⟩
          have hb0 : Below wb.heap.size wb (wb.alloc (.cells (ptCells (List.replicate T.length ⟨0, 0, 0⟩)).toArray 39)) := by (repeat (first | exact grow_refl _ | refine grow_ext _ ?_ | refine grow_alloc _ ?_ | refine grow_drew ?_))
          have hB0 : Blk (wb.alloc (.cells (ptCells (List.replicate T.length ⟨0, 0, 0⟩)).toArray 39)) gO (ptCells (fillL (stepT r j) T 0)).toArray 39 := by rw [fillL_zero]; exact Blk.new' hgO _ _
          rw [← hgO]
          rw [← hgO] at hb0
          have HGO := Lib.hid hgO
          have HG6 := Lib.hid (show g6 ≠ gO by have := (HKC2.out.blk HB1.out).lt; omega)
          clear hgO hmk
          go_loopw [31] (fun i wx => ∃ q : Nat, q ≤ T.length ∧ i = .int .i64 q ∧ Below gO wb wx ∧ Blk wx gO (ptCells (fillL (stepT r j) T q)).toArray 39) (fun i _ => T.length - (intOf i).toNat)
          case atStart => exact ⟨0, by omega, rfl, hb0, hB0⟩
          case round =>
            clear hb0 hB0
            obtain ⟨wx, rfl⟩ : ∃ W : World, W = wr := ⟨_, rfl⟩
            obtain ⟨q, hq, rfl, hbx, hBx⟩ := hrel
            have HBX := Lib.hid hbx
            have HOX := Lib.hid hBx
            by_cases hlt3 : q < T.length
            · have q5 : (0 : Int) ≤ (q : Int) := by omega
              have q6 : (q : Int) < (T.length : Int) := by omega
              have hbx' := hbx
              rw [HGO.out] at hbx'
              have rb := (HKC2.out.blk HB1.out).below hbx'
              have hpw := (HKC2.out.pts HP1.out).below hbx'
              have HRB2 := Lib.hid rb
              obtain ⟨a8, cap8, e8, _, _, h8⟩ := hpw
              cases e8
              obtain ⟨b8, off8, ea8, p0, p1, p2⟩ := h8 q hlt3
              subst ea8
              have htn := HTN.out _ (List.getElem_mem hlt3)
              have hfs := fillL_set (stepT r j) T hlt3
              have hfl := fillL_length (stepT r j) T hq
              obtain ⟨t, ht⟩ : ∃ t, T[q] = t := ⟨_, rfl⟩
              rw [ht] at p0 p1 p2 htn hfs
              obtain ⟨L, hL⟩ : ∃ L, fillL (stepT r j) T q = L := ⟨_, rfl⟩
              rw [hL] at hBx hfs hfl
              have hqL : q < L.length := by omega
              obtain ⟨e0, e1, e2⟩ := ptCells_get L q hqL
              have o0 := hBx.cell (q * 3)
              have o1 := hBx.cell (q * 3 + 1)
              have o2 := hBx.cell (q * 3 + 2)
              rw [List.getElem?_toArray] at o0 o1 o2
              rw [e0] at o0
              rw [e1] at o1
              rw [e2] at o2
              have f0 := hBx.frozen (q * 3)
              have f1 := hBx.frozen (q * 3 + 1)
              have f2 := hBx.frozen (q * 3 + 2)
              have c3 : wx.cell? ⟨g6, 3, none⟩ = some (.int .i64 r.ax) := rb.cell 3
              have c4 : wx.cell? ⟨g6, 4, none⟩ = some (.int .i64 r.ay) := rb.cell 4
              have c5 : wx.cell? ⟨g6, 5, none⟩ = some (.int .i64 r.az) := rb.cell 5
              have HBL2 := Lib.hid hBx
              have HFS := Lib.hid hfs
              have HLL := Lib.hid hL
              have HQL := Lib.hid hqL
              generalize L[q] = z at *
              have ha5 := HRB.out
              rw [runB_eq] at ha5
              simp only [right1, Bool.and_eq_true] at ha5
              obtain ⟨t1, t2, t3⟩ := htn
              obtain ⟨s1', s2', s3'⟩ := near_iff.1 ha5.1.2.2.2.2
              have HPL := Lib.hid (fun w => plus_c t ⟨r.ax, r.ay, r.az⟩ 1 (by unfold NearP; omega) (by unfold NearP; omega) (by omega) w)
              have hpn : NearP (plusP t ⟨r.ax, r.ay, r.az⟩ 1) 8388608 := by unfold NearP plusP; simp only at *; omega
              obtain ⟨P, hP⟩ : ∃ P, plusP t ⟨r.ax, r.ay, r.az⟩ 1 = P := ⟨_, rfl⟩
              rw [hP] at hpn HPL
              have HP := Lib.hid hP
              have HPN := Lib.hid hpn
              clear hbx hBx rb h8 hfs hL hqL e0 e1 e2 hfl ht t1 t2 t3 s1' s2' s3' ha5 hP hpn hbx'
              go_wp2_with fail
              go_at_call 34; refine (HPL.out _).mono ?_; rintro e w' ⟨rfl, z1, rfl⟩
              by_cases h0 : (0 : Int) < (j : Int)
              · have hnear := HRB.out
                rw [runB_eq] at hnear
                simp only [right2, Bool.and_eq_true, Bool.or_eq_true, decide_eq_true_iff] at hnear
                have hst : NearP ⟨r.sx, r.sy, r.sz⟩ 2097152 := by
                  rcases hnear.2.1 with h | h
                  · omega
                  · exact near_iff.1 h.2
                have HPS := Lib.hid (fun w => plus_c P ⟨r.sx, r.sy, r.sz⟩ j HPN.out hst (by omega) w)
                obtain ⟨Q, hQ⟩ : ∃ Q, plusP P ⟨r.sx, r.sy, r.sz⟩ j = Q := ⟨_, rfl⟩
                rw [hQ] at HPS
                have HST := Lib.hid (show stepT r j t = Q by unfold stepT; rw [if_pos h0, HP.out, hQ])
                clear hnear hst hQ
                go_upto_region 14 with fail
                refine world_mask (fun W => Below gO wb W ∧ Blk W gO (ptCells (L.set q P)).toArray 39 ∧ Blk W g6 (rnCells r) 41) _ ⟨?_, ?_, ?_⟩ ?_
                · rw [HGO.out]
                  exact grow_ext _ (grow_alloc _ (below_set3 (by rw [← HGO.out]; exact HBX.out) rfl _ _ _ _ _ _))
                · exact ((HBL2.out.set_pt q HQL.out P).alloc _).ext _
                · exact ((HRB2.out.other3 HG6.out _ _ _ _ _ _).alloc _).ext _
                clear p0 p1 p2 o0 o1 o2 f0 f1 f2 c3 c4 c5
                rintro WX ⟨hbW, hBW, hRW⟩
                have HBW := Lib.hid hbW
                have HOW := Lib.hid hBW
                have hql : q < (L.set q P).length := by rw [List.length_set]; exact HQL.out
                obtain ⟨e0, e1, e2⟩ := ptCells_get (L.set q P) q hql
                rw [List.getElem_set_self] at e0 e1 e2
                have o0 := hBW.cell (q * 3)
                have o1 := hBW.cell (q * 3 + 1)
                have o2 := hBW.cell (q * 3 + 2)
                rw [List.getElem?_toArray] at o0 o1 o2
                rw [e0] at o0
                rw [e1] at o1
                rw [e2] at o2
                have f0 := hBW.frozen (q * 3)
                have f1 := hBW.frozen (q * 3 + 1)
                have f2 := hBW.frozen (q * 3 + 2)
                have c6 : WX.cell? ⟨g6, 6, none⟩ = some (.int .i64 r.sx) := hRW.cell 6
                have c7 : WX.cell? ⟨g6, 7, none⟩ = some (.int .i64 r.sy) := hRW.cell 7
                have c8 : WX.cell? ⟨g6, 8, none⟩ = some (.int .i64 r.sz) := hRW.cell 8
                clear hbW hBW hRW e0 e1 e2 hql
                refine wp_region_tail 10 (by kernel_rfl) (by kernel_rfl) ?_; simp only [List.take_succ_cons, List.take_zero, List.drop_succ_cons, List.drop_zero]
                repeat (go_big_quiet_step ((go_at_call 34; exact Calls.quiet_ext (HPS.out _))))
                refine wpQuiet_nil ?_; rintro _ ⟨xq, rfl⟩
                go_wp2_with fail
                go_roundw
                case rel =>
                  refine ⟨q + 1, by omega, by go_num, ?_, ?_⟩
                  · have hbW := HBW.out
                    rw [HGO.out] at hbW ⊢
                    exact grow_ext _ (below_set3 hbW rfl _ _ _ _ _ _)
                  · rw [← HFS.out, HST.out]
                    have := (HOW.out.set_pt q (by rw [List.length_set]; exact HQL.out) Q).ext xq
                    rw [List.set_set] at this
                    exact this
                case measure => simp [intOf]; omega
              · have HST := Lib.hid (show stepT r j t = P by unfold stepT; rw [if_neg h0]; exact HP.out)
                go_wp2
                go_roundw
                case rel =>
                  refine ⟨q + 1, by omega, by go_num, ?_, ?_⟩
                  · rw [HGO.out]
                    exact grow_ext _ (grow_alloc _ (below_set3 (by rw [← HGO.out]; exact HBX.out) rfl _ _ _ _ _ _))
                  · rw [← HFS.out, HST.out]
                    exact ((HBL2.out.set_pt q HQL.out P).alloc _).ext _
                case measure => simp [intOf]; omega
            · obtain rfl : q = T.length := by omega
              have hKX : KC n₀ W1 wx := HKC2.out.trans (KC.of_below (Nat.le_trans hn (Nat.le_trans HK1.out.size HKC2.out.size)) (by rw [← HGO.out]; exact hbx))
              have hpl : pathI l rs (C + j) = T.map (stepT r j) := by
                have hp := place_take (rs := rs) (fun x hx => (runB_count ((laidB_iff.1 HV.out).2.2.1 x hx)).1) q3 k
                rw [HC.out, HDR.out, placeR, if_pos hlt2] at hp
                unfold pathI
                rw [hp]
                simp only
                rw [laidL_eq _ _ q3, HT.out]
              have hpts : Pts wx (.slice (some ⟨gO, 0, none⟩) T.length T.length) (pathI l rs (C + j)) := by
                rw [hpl]
                rw [fillL_all] at hBx
                refine ⟨some ⟨gO, 0, none⟩, T.length, by rw [List.length_map], by rw [List.length_map]; exact Nat.le_refl _, by omega, fun i hi => ⟨gO, 0, rfl, ?_⟩⟩
                obtain ⟨e0, e1, e2⟩ := ptCells_get (T.map (stepT r j)) i hi
                rw [Nat.zero_add]
                exact ⟨by rw [hBx.cell, List.getElem?_toArray, e0], by rw [hBx.cell, List.getElem?_toArray, e1], by rw [hBx.cell, List.getElem?_toArray, e2]⟩
              have HY := KY.out (C + j) gO _ wx (by omega) (by omega) (KJ.out _ _ _ HJ2.out (by rw [← HGO.out]; exact hbx)) (HK1.out.trans hKX).below (by have h1 := (HK1.out.trans HKC2.out).size; have h2 := HGO.out; omega) hpts
              have HKX := Lib.hid hKX
              clear hKX hpl hpts hbx hBx
              go_upto_region 16 with fail
              obtain ⟨fn, tmps, assign, body, hy, hR⟩ := HY
              have HR := Lib.hid hR
              clear hR
              refine (wpIn_wide (n := 1)).1 ?_
              gi_wp2
              refine (roundIn_any HR.out).mono ?_
              rintro e W4 (⟨rfl, hj4, hk4⟩ | ⟨rfl, hjx⟩)
              · have hk5 := HKX.out.trans hk4
                have HK5 := Lib.hid hk5
                have HJ4 := Lib.hid hj4
                clear hk4 hk5 hj4
                have hsm : -9223372036854775808 ≤ C + (j : Int) + 1 ∧ C + (j : Int) + 1 ≤ 9223372036854775807 := by omega
                gi_wp2
                go_wp2
                go_roundw
                case rel => exact ⟨j + 1, by omega, by go_num, by congr 1; omega, HK5.out, by rw [show C + ((j + 1 : Nat) : Int) = C + j + 1 by omega]; exact HJ4.out⟩
                case measure => simp [intOf]; omega
              · gi_wp2
                go_wp2
                refine bodyPost_ret (results_none rfl _ _ _) rfl ?_
                exact ⟨rfl, .inr hjx⟩
        · have hje : (j : Int) = r.count := by omega
          have HW := Lib.hid (HK1.out.trans HKC2.out)
          have HJ3 : Hid (J (countS (rs.take (k + 1))) wb) := by rw [HCT.out, ← hje]; exact HJ2.out
          have HN := Lib.hid (show C + (j : Int) = countS (rs.take (k + 1)) by rw [HCT.out, hje])
          clear hje
          go_wp2
          go_roundw
          case rel => exact ⟨k + 1, by omega, by go_num, by rw [HN.out], HW.out, HJ3.out⟩
          case measure => simp [intOf]; omega
    · obtain rfl : k = rs.length := by omega
      have hj := HJ.out
      rw [List.take_length] at hj ⊢
      have HJ5 := Lib.hid hj
      clear hj
      go_wp2
      go_end0
      exact ⟨rfl, .inl HJ5.out⟩

end Go.Proofs.Ytofjopdcbmaijaa
