/- LaidH, LaidI, LaidJ in one text. -/
import Derived.Test.YtkjljneehgmmaaaGreatAaK3
import Derived.Deep.DeepCutAuto
namespace Go.Proofs.YtkjljneehgmmaaaGreat
open Go.RowKit
set_option maxRecDepth 20000

def right1 (l : List Br) (r : Rn) : Bool := decide (0 ≤ findI l r.mark) && (turnB r.tx r.ty && (decide (1 ≤ r.count) && (decide (r.count ≤ 1000) && nearB ⟨r.ax, r.ay, r.az⟩ 1048576)))
def right2 (r : Rn) : Bool := decide (r.count ≤ 1) || (!(decide (r.sx = 0) && (decide (r.sy = 0) && decide (r.sz = 0))) && nearB ⟨r.sx, r.sy, r.sz⟩ 2097152)
theorem runB_eq (l : List Br) (r : Rn) : runB l r = (right1 l r && (right2 r && ((laidL (barOf l r.mark) r 0).all (fun p => nearB p 1048576) && (laidL (barOf l r.mark) r (r.count - 1)).all (fun p => nearB p 1048576)))) := by
 unfold runB rightR right1 right2
 simp only [Bool.and_assoc]

theorem bar_mem {l : List Br} {m : ByteArray} (h : 0 ≤ findI l m) : barOf l m ∈ l := by
 rcases findI_cases l m with ⟨e, _⟩ | ⟨k, hkl, e, _, _⟩
 ·rw [e] at h; exact absurd h (by decide)
 ·unfold barOf; rw [e]; simp [hkl]
def stepT (r : Rn) (k : Int) (t : Pt) : Pt := if 0 < k then plusP (plusP t ⟨r.ax, r.ay, r.az⟩ 1) ⟨r.sx, r.sy, r.sz⟩ k else plusP t ⟨r.ax, r.ay, r.az⟩ 1
theorem laidL_eq (b : Br) (r : Rn) {k : Int} (hk : 0 ≤ k) : laidL b r k = (turnedL b r).map (stepT r k) := by
 unfold laidL turnedL
 rw [List.map_map]
 apply List.map_congr_left
 intro p _
 unfold laidP stepT plusP
 simp only [Function.comp_apply]
 split
 ·simp only [Int.one_mul]
 ·obtain rfl : k = 0 := by omega
  simp only [Int.one_mul, Int.zero_mul, Int.add_zero]
theorem turnedL_near {b : Br} {r : Rn} (hs : shapeB b = true) (ht : turnB r.tx r.ty = true) : ∀ p ∈ turnedL b r, NearP p 1048576 := by
 intro p hp
 unfold turnedL at hp
 obtain ⟨q, hq, rfl⟩ := List.mem_map.1 hp
 exact img_near ht (path_near hs q hq)
theorem turnedL_len (b : Br) (r : Rn) : (turnedL b r).length ≤ 7 := by
 unfold turnedL; rw [List.length_map]; exact (path_len b).2
theorem take_near_succ {l : List Pt} {f : Pt → Pt} {k : Nat} (h : k < l.length) (h1 : ((l.take k).map f).all (fun p => nearB p 1048576) = true) (h2 : nearB (f l[k]) 1048576 = true) : ((l.take (k + 1)).map f).all (fun p => nearB p 1048576) = true := by
 rw [List.take_succ_eq_append_getElem h, List.map_append, List.all_append, h1]
 simpa using h2
theorem map_near_false {l : List Pt} {f : Pt → Pt} {k : Nat} (h : k < l.length) (h2 : nearB (f l[k]) 1048576 = false) : (l.map f).all (fun p => nearB p 1048576) = false := by
 rw [List.all_eq_false]
 exact ⟨f l[k], List.mem_map.2 ⟨_, List.getElem_mem h, rfl⟩, by rw [h2]; exact Bool.false_ne_true⟩

def ksN (count : Int) (j : Nat) : Int := if j = 0 then 0 else count - 1

theorem ks_false {T : List Pt} {f : Int → Pt → Pt} {count : Int} {q : Bool} (hq : (((T.map (f 0)).all fun p => nearB p 1048576) && ((T.map (f (count - 1))).all fun p => nearB p 1048576)) = q) {k : Nat} (hk : k < 2) (h : ((T.map (f (ksN count k))).all fun p => nearB p 1048576) = false) : false = q := by
 rcases (show k = 0 ∨ k = 1 by omega) with rfl | rfl
 ·rw [show ksN count 0 = 0 from rfl] at h
  rw [← hq, h]; rfl
 ·rw [show ksN count 1 = count - 1 from rfl] at h
  rw [← hq, h, Bool.and_false]
theorem ks_true {T : List Pt} {f : Int → Pt → Pt} {count : Int} {q : Bool} (hq : (((T.map (f 0)).all fun p => nearB p 1048576) && ((T.map (f (count - 1))).all fun p => nearB p 1048576)) = q) (h : ∀ j, j < 2 → ((T.map (f (ksN count j))).all fun p => nearB p 1048576) = true) : true = q := by
 have h0 := h 0 (by omega)
 have h1 := h 1 (by omega)
 rw [show ksN count 0 = 0 from rfl] at h0
 rw [show ksN count 1 = count - 1 from rfl] at h1
 rw [← hq, h0, h1]; rfl

def rnCells (r : Rn) : Array Value := #[.string r.mark, .int .i64 r.tx, .int .i64 r.ty, .int .i64 r.ax, .int .i64 r.ay, .int .i64 r.az, .int .i64 r.sx, .int .i64 r.sy, .int .i64 r.sz, .int .i64 r.count]

set_option maxRecDepth 100000 in
set_option maxHeartbeats 4000000 in
theorem right_v (l : List Br) (v : Value) (r : Rn) (q : Bool) (hq : runB l r = q) (hs : ∀ b ∈ l, shapeB b = true) (w : World) (hl : Bars w v l) :
  Calls Tryz.prog 139 #[v, (.agg #[.string r.mark, .int .i64 r.tx, .int .i64 r.ty, .int .i64 r.ax, .int .i64 r.ay, .int .i64 r.az, .int .i64 r.sx, .int .i64 r.sy, .int .i64 r.sz, .int .i64 r.count])] w (Ret w (.bool q)) := by
 have HF := hd0 (fun w hl => find_c l v r.mark w hl)
 have HT := hd0 (fun q h w => frameValid_v r.tx r.ty q h w)
 have HA := hd0 (fun q h w => isPlace_v ⟨r.ax, r.ay, r.az⟩ 1048576 q h (by decide) w)
 have HS := hd0 (fun q h w => isPlace_v ⟨r.sx, r.sy, r.sz⟩ 2097152 q h (by decide) w)
 have HL := hd0 hl
 rw [runB_eq] at hq
 have HQ := hd0 hq
 have HB := hd0 hs
 obtain ⟨ok, HK⟩ : ∃ q, Hid (right1 l r = q) := ⟨_, hd0 rfl⟩
 obtain ⟨ok2, HK2⟩ : ∃ q, Hid (right2 r = q) := ⟨_, hd0 rfl⟩
 clear hs hl hq
 go_enter Tryz.func139, Tryz.ntmps139
 go_upto_region 1 with fail
 refine world_mask (fun W => (∃ x, W = ext w x) ∧ Blk W w.heap.size (rnCells r) 118) _ ⟨ext_of gro, Blk.new' rfl _ _⟩ ?_
 rintro W1 ⟨⟨x, rfl⟩, hR⟩
 have c0 : (ext w x).cell? ⟨w.heap.size, 0, none⟩ = some (.string r.mark) := hR.cell 0
 have c1 : (ext w x).cell? ⟨w.heap.size, 1, none⟩ = some (.int .i64 r.tx) := hR.cell 1
 have c2 : (ext w x).cell? ⟨w.heap.size, 2, none⟩ = some (.int .i64 r.ty) := hR.cell 2
 have c3 : (ext w x).cell? ⟨w.heap.size, 3, none⟩ = some (.int .i64 r.ax) := hR.cell 3
 have c4 : (ext w x).cell? ⟨w.heap.size, 4, none⟩ = some (.int .i64 r.ay) := hR.cell 4
 have c5 : (ext w x).cell? ⟨w.heap.size, 5, none⟩ = some (.int .i64 r.az) := hR.cell 5
 have c6 : (ext w x).cell? ⟨w.heap.size, 6, none⟩ = some (.int .i64 r.sx) := hR.cell 6
 have c7 : (ext w x).cell? ⟨w.heap.size, 7, none⟩ = some (.int .i64 r.sy) := hR.cell 7
 have c8 : (ext w x).cell? ⟨w.heap.size, 8, none⟩ = some (.int .i64 r.sz) := hR.cell 8
 have c9 : (ext w x).cell? ⟨w.heap.size, 9, none⟩ = some (.int .i64 r.count) := hR.cell 9
 have HRB := hd0 hR
 clear hR
 obtain ⟨W1, hW1⟩ : ∃ W, W = ext w x := ⟨_, rfl⟩
 have HW1 := hd0 hW1
 rw [← hW1] at c0 c1 c2 c3 c4 c5 c6 c7 c8 c9 HRB ⊢
 clear hW1
 have HL1 := hd0 (show Bars W1 v l by rw [HW1.out]; exact HL.out.ext _)
 obtain ⟨K, HKK⟩ : ∃ K, Hid (findI l r.mark = K) := ⟨_, hd0 rfl⟩
 rw [HKK.out] at HF
 obtain ⟨mark, tx, ty, ax, ay, az, sx, sy, sz, count⟩ := r
 simp only at *
 go_cut [37] (fun s wx => s = .bool (!ok) ∧ ∃ x, wx = ext W1 x)
 case first =>
  have hok := HK.out
  unfold right1 at hok
  simp only [HKK.out] at hok
  by_cases h1 : 0 ≤ K
  ·rw [decide_eq_true h1, Bool.true_and] at hok
   cases h2 : turnB tx ty
   ·obtain rfl : false = ok := by rw [← hok, h2]; rfl
    have H2 := hd0 h2
    clear h2 hok
    go_wp2_with fail
    go_at_call 191; refine (HF.out _ (HL1.out.below gro)).mono ?_; rintro e w' ⟨rfl, y1, rfl⟩
    go_wp2_with fail
    go_at_call 192; refine (HT.out _ H2.out _).mono ?_; rintro e w' ⟨rfl, y2, rfl⟩
    go_wp2
    go_meet
    exact ⟨rfl, ext_of gro⟩
   ·rw [h2, Bool.true_and] at hok
    have H2 := hd0 h2
    clear h2
    by_cases h3 : 1 ≤ count
    ·rw [decide_eq_true h3, Bool.true_and] at hok
     by_cases h4 : count ≤ 1000
     ·rw [decide_eq_true h4, Bool.true_and] at hok
      have H5 := hd0 hok
      clear hok
      go_wp2_with fail
      go_at_call 191; refine (HF.out _ (HL1.out.below gro)).mono ?_; rintro e w' ⟨rfl, y1, rfl⟩
      go_wp2_with fail
      go_at_call 192; refine (HT.out _ H2.out _).mono ?_; rintro e w' ⟨rfl, y2, rfl⟩
      go_wp2_with fail
      go_at_call 193; refine (HA.out _ H5.out _).mono ?_; rintro e w' ⟨rfl, y3, rfl⟩
      go_wp2
      go_meet
      exact ⟨by rw [decide_eq_false (by omega : ¬ K < 0), decide_eq_false (by omega : ¬ count < 1), decide_eq_false (by omega : ¬ 1000 < count)]; rfl, ext_of gro⟩
     ·obtain rfl : false = ok := by rw [← hok, decide_eq_false h4]; rfl
      clear hok
      go_wp2_with fail
      go_at_call 191; refine (HF.out _ (HL1.out.below gro)).mono ?_; rintro e w' ⟨rfl, y1, rfl⟩
      go_wp2_with fail
      go_at_call 192; refine (HT.out _ H2.out _).mono ?_; rintro e w' ⟨rfl, y2, rfl⟩
      go_wp2
      go_meet
      exact ⟨rfl, ext_of gro⟩
    ·obtain rfl : false = ok := by rw [← hok, decide_eq_false h3]; rfl
     clear hok
     go_wp2_with fail
     go_at_call 191; refine (HF.out _ (HL1.out.below gro)).mono ?_; rintro e w' ⟨rfl, y1, rfl⟩
     go_wp2_with fail
     go_at_call 192; refine (HT.out _ H2.out _).mono ?_; rintro e w' ⟨rfl, y2, rfl⟩
     go_wp2
     go_meet
     exact ⟨rfl, ext_of gro⟩
  ·obtain rfl : false = ok := by rw [← hok, decide_eq_false h1]; rfl
   clear hok
   go_wp2_with fail
   go_at_call 191; refine (HF.out _ (HL1.out.below gro)).mono ?_; rintro e w' ⟨rfl, y1, rfl⟩
   go_wp2
   go_meet
   exact ⟨rfl, ext_of gro⟩
 case rest =>
  obtain ⟨rfl, y, rfl⟩ := hcut
  have hq := HQ.out
  rw [HK.out] at hq
  cases ok
  ·obtain rfl : false = q := by rw [← hq]; rfl
   clear hq
   go_wp2
   go_ret
   exact Ret.of (by rw [HW1.out]; (repeat (first | exact grow_refl _ | refine grow_ext _ ?_ | refine grow_alloc _ ?_ | refine grow_drew ?_)))
  rw [Bool.true_and] at hq
  have HQ2 := hd0 hq
  clear hq HQ
  have hr := HK.out
  unfold right1 at hr
  simp only [Bool.and_eq_true, decide_eq_true_iff] at hr
  obtain ⟨k1, k2, k3, k4, k5⟩ := hr
  rw [HKK.out] at k1
  have HT2 := hd0 k2
  have HA5 := hd0 (near_iff.1 k5)
  clear k2 k5 HA HT HF
  go_upto_region 3 with fail
  go_cut [52] (fun s wx => s = .bool (!ok2) ∧ ∃ x, wx = ext W1 x)
  case first =>
   have hok := HK2.out
   unfold right2 at hok
   simp only at hok
   by_cases h1 : 1 < count
   ·rw [decide_eq_false (by omega), Bool.false_or] at hok
    cases h3 : nearB ⟨sx, sy, sz⟩ 2097152
    all_goals
     rw [h3] at hok
     have H3 := hd0 h3
     clear h3
     by_cases a1 : sx = 0
     ·by_cases a2 : sy = 0
      ·by_cases a3 : sz = 0
       ·obtain rfl : false = ok2 := by rw [← hok, a1, a2, a3]; rfl
        subst a1 a2 a3
        clear hok HS H3
        go_wp2
        go_meet
        exact ⟨rfl, ext_of gro⟩
       ·have e3 : (sz == 0) = false := by simpa using a3
        simp [a3] at hok
        subst hok a1 a2
        go_wp2_with fail
        go_at_call 193; refine (HS.out _ H3.out _).mono ?_; rintro e w' ⟨rfl, y5, rfl⟩
        go_wp2
        go_meet
        exact ⟨rfl, ext_of gro⟩
      ·have e3 : (sy == 0) = false := by simpa using a2
       simp [a2] at hok
       subst hok a1
       go_wp2_with fail
       go_at_call 193; refine (HS.out _ H3.out _).mono ?_; rintro e w' ⟨rfl, y5, rfl⟩
       go_wp2
       go_meet
       exact ⟨rfl, ext_of gro⟩
     ·have e3 : (sx == 0) = false := by simpa using a1
      simp [a1] at hok
      subst hok
      go_wp2_with fail
      go_at_call 193; refine (HS.out _ H3.out _).mono ?_; rintro e w' ⟨rfl, y5, rfl⟩
      go_wp2
      go_meet
      exact ⟨rfl, ext_of gro⟩
   ·rw [decide_eq_true (by omega), Bool.true_or] at hok
    subst hok
    go_wp2
    go_meet
    exact ⟨rfl, ext_of gro⟩
  case rest =>
   obtain ⟨rfl, y2, rfl⟩ := hcut
   have hq := HQ2.out
   rw [HK2.out] at hq
   cases ok2
   ·obtain rfl : false = q := by rw [← hq]; rfl
    clear hq
    go_wp2
    go_ret
    exact Ret.of (by rw [HW1.out]; (repeat (first | exact grow_refl _ | refine grow_ext _ ?_ | refine grow_alloc _ ?_ | refine grow_drew ?_)))
   rw [Bool.true_and] at hq
   have hsm := HK2.out
   unfold right2 at hsm
   simp only [Bool.or_eq_true, Bool.and_eq_true, decide_eq_true_iff] at hsm
   have HSM := hd0 (show 1 < count → NearP ⟨sx, sy, sz⟩ 2097152 from fun h => by
    rcases hsm with h' | h'
    ·omega
    ·exact near_iff.1 h'.2)
   clear hsm HS HQ2
   have hbm : shapeB (barOf l mark) = true := HB.out _ (bar_mem (by rw [HKK.out]; exact k1))
   have HTU := hd0 (fun w hl => turned_c l v ⟨mark, tx, ty, ax, ay, az, sx, sy, sz, count⟩ (by show 0 ≤ findI l mark; rw [HKK.out]; exact k1) hbm HT2.out w hl)
   have htn := turnedL_near (r := ⟨mark, tx, ty, ax, ay, az, sx, sy, sz, count⟩) hbm HT2.out
   have htl := turnedL_len (barOf l mark) ⟨mark, tx, ty, ax, ay, az, sx, sy, sz, count⟩
   rw [laidL_eq _ _ (Int.le_refl 0), laidL_eq _ _ (show 0 ≤ count - 1 by omega)] at hq
   simp only at HTU
   generalize turnedL (barOf l mark) ⟨mark, tx, ty, ax, ay, az, sx, sy, sz, count⟩ = T at *
   have HTN := hd0 htn
   have HQ3 := hd0 hq
   clear hbm htn hq HB
   go_wp2_with fail
   go_at_call 194; refine (HTU.out _ (HL1.out.below gro)).mono ?_; rintro e w' ⟨v5, rfl, hown, y3, rfl⟩
   have hpt := Pts.of_own hown
   obtain ⟨a5, cap5, rfl, l1, l2, l3⟩ := hpt.shape
   have HPT := hd0 hpt
   clear hown hpt l3
   go_wp2_with fail
   obtain ⟨g, hg⟩ : ∃ g, g = W1.heap.size + y2.heap.size + y3.heap.size := ⟨_, rfl⟩
   rw [← hg]
   refine world_mask (fun W => Below w.heap.size w W ∧ Blk W w.heap.size (rnCells ⟨mark, tx, ty, ax, ay, az, sx, sy, sz, count⟩) 118 ∧ Blk W g #[.int .i64 0, .int .i64 (count - 1)] 3 ∧ Pts W (.slice a5 T.length cap5) T) _ ⟨?_, ?_, ?_, ?_⟩ ?_
   ·rw [HW1.out]; (repeat (first | exact grow_refl _ | refine grow_ext _ ?_ | refine grow_alloc _ ?_ | refine grow_drew ?_))
   ·exact ((HRB.out.ext _).ext _).alloc _
   ·rw [hg]; exact Blk.new' (by simp only [size_ext]) _ _
   ·exact HPT.out.below gro
   clear hg c0 c1 c2 c3 c4 c5 c6 c7 c8 c9 HPT
   rintro W3 ⟨hb3, hr3, hg3, hp3⟩
   have HB3 := hd0 hb3
   have HR3 := hd0 hr3
   have HG3 := hd0 hg3
   have HP3 := hd0 hp3
   clear hb3 hr3 hg3 hp3
   go_loopw [61] (fun j wr => ∃ k : Nat, k ≤ 2 ∧ j = .int .i64 k ∧ (∃ x, wr = ext W3 x) ∧ ∀ j, j < k → ((T.map (stepT ⟨mark, tx, ty, ax, ay, az, sx, sy, sz, count⟩ (ksN count j))).all fun p => nearB p 1048576) = true) (fun j _ => 2 - (intOf j).toNat)
   case atStart => exact ⟨0, by omega, rfl, ext_of (Below.refl _ _), fun j h => by omega⟩
   case round =>
    obtain ⟨k, hk, rfl, ⟨x, rfl⟩, hno⟩ := hrel
    have HNO := hd0 hno
    clear hno
    by_cases hlt : k < 2
    ·have q1 : (0 : Int) ≤ (k : Int) := by omega
     have q2 : (k : Int) < 2 := by omega
     have d0 : (ext W3 x).cell? ⟨g, k, none⟩ = some (.int .i64 (ksN count k)) := by
      rw [(HG3.out.ext x).cell k]
      rcases (show k = 0 ∨ k = 1 by omega) with rfl | rfl <;> rfl
     have hks : 0 ≤ ksN count k ∧ ksN count k ≤ 999 ∧ (0 < ksN count k → 1 < count) := by
      unfold ksN; split <;> omega
     obtain ⟨N, hN⟩ : ∃ N, ksN count k = N := ⟨_, rfl⟩
     rw [hN] at d0 hks
     have HN := hd0 hN
     obtain ⟨n1, n2, n3⟩ := hks
     have HN3 := hd0 n3
     clear hN n3
     go_wp2_with fail
     clear d0
     go_loopw [67] (fun i wr => ∃ k : Nat, k ≤ T.length ∧ i = .int .i64 k ∧ (∃ x, wr = ext W3 x) ∧ (((T.take k).map (stepT ⟨mark, tx, ty, ax, ay, az, sx, sy, sz, count⟩ N)).all fun p => nearB p 1048576) = true) (fun i _ => T.length - (intOf i).toNat)
     case atStart => exact ⟨0, by omega, rfl, ⟨_, rfl⟩, rfl⟩
     case round =>
      obtain ⟨i, hi, rfl, ⟨z, rfl⟩, hall⟩ := hrel
      have HALL := hd0 hall
      clear hall
      by_cases hlt2 : i < T.length
      ·have q3 : (0 : Int) ≤ (i : Int) := by omega
       have q4 : (i : Int) < (T.length : Int) := by omega
       obtain ⟨b, off, ea, hpt⟩ := (HP3.out.ext z).shape.elim fun a h => h.elim fun cap h => by
        obtain ⟨e, _, _, h4⟩ := h
        cases e
        exact h4 i hlt2
       subst ea
       obtain ⟨p0, p1, p2⟩ := hpt
       have htn := HTN.out _ (List.getElem_mem hlt2)
       obtain ⟨t, ht⟩ : ∃ t, T[i] = t := ⟨_, rfl⟩
       rw [ht] at p0 p1 p2 htn
       have HTI := hd0 ht
       have rb := HR3.out.ext z
       have c3 : (ext W3 z).cell? ⟨w.heap.size, 3, none⟩ = some (.int .i64 ax) := rb.cell 3
       have c4 : (ext W3 z).cell? ⟨w.heap.size, 4, none⟩ = some (.int .i64 ay) := rb.cell 4
       have c5 : (ext W3 z).cell? ⟨w.heap.size, 5, none⟩ = some (.int .i64 az) := rb.cell 5
       have c6 : (ext W3 z).cell? ⟨w.heap.size, 6, none⟩ = some (.int .i64 sx) := rb.cell 6
       have c7 : (ext W3 z).cell? ⟨w.heap.size, 7, none⟩ = some (.int .i64 sy) := rb.cell 7
       have c8 : (ext W3 z).cell? ⟨w.heap.size, 8, none⟩ = some (.int .i64 sz) := rb.cell 8
       obtain ⟨t1, t2, t3⟩ := htn
       obtain ⟨s1, s2, s3⟩ := HA5.out
       have HPL := hd0 (fun w => plus_c t ⟨ax, ay, az⟩ 1 (by unfold NearP; omega) (by unfold NearP; omega) (by omega) w)
       have hpn : NearP (plusP t ⟨ax, ay, az⟩ 1) 8388608 := by unfold NearP plusP; simp only at *; omega
       obtain ⟨P, hP⟩ : ∃ P, plusP t ⟨ax, ay, az⟩ 1 = P := ⟨_, rfl⟩
       rw [hP] at hpn HPL
       clear t1 t2 t3 s1 s2 s3 ht rb
       by_cases h0 : 0 < N
       ·have HPS := hd0 (fun w => plus_c P ⟨sx, sy, sz⟩ N hpn (HSM.out (HN3.out h0)) (by omega) w)
        obtain ⟨Q, hQ⟩ : ∃ Q, plusP P ⟨sx, sy, sz⟩ N = Q := ⟨_, rfl⟩
        rw [hQ] at HPS
        have HST := hd0 (show stepT ⟨mark, tx, ty, ax, ay, az, sx, sy, sz, count⟩ N t = Q by unfold stepT; rw [if_pos h0]; simp only; rw [hP, hQ])
        clear hP hQ hpn
        go_wp2_with fail
        go_at_call 195; refine (HPL.out _).mono ?_; rintro e w' ⟨rfl, z1, rfl⟩
        go_wp2_with fail
        go_at_call 195; refine (HPS.out _).mono ?_; rintro e w' ⟨rfl, z2, rfl⟩
        cases hz : nearB Q 1048576
        ·have hf := map_near_false (f := stepT ⟨mark, tx, ty, ax, ay, az, sx, sy, sz, count⟩ N) hlt2 (by rw [HTI.out, HST.out]; exact hz)
         rw [← HN.out] at hf
         obtain rfl : false = q := ks_false (f := stepT ⟨mark, tx, ty, ax, ay, az, sx, sy, sz, count⟩) HQ3.out hlt hf
         clear hf
         have HZ := hd0 hz
         clear hz
         go_wp2_with fail
         go_at_call 193; refine (isPlace_v _ _ _ HZ.out (by decide) _).mono ?_; rintro e w' ⟨rfl, z3, rfl⟩
         go_wp2
         go_ret
         exact Ret.of (HB3.out.trans ((show Below W3.heap.size W3 _ from gro).mono HB3.out.size))
        ·have HX := hd0 (take_near_succ (f := stepT ⟨mark, tx, ty, ax, ay, az, sx, sy, sz, count⟩ N) hlt2 HALL.out (by rw [HTI.out, HST.out]; exact hz))
         have HZ := hd0 hz
         clear hz
         go_wp2_with fail
         go_at_call 193; refine (isPlace_v _ _ _ HZ.out (by decide) _).mono ?_; rintro e w' ⟨rfl, z3, rfl⟩
         go_wp2
         go_roundw
         case rel => exact ⟨i + 1, by omega, by go_num, ext_of gro, HX.out⟩
         case measure => simp [intOf]; omega
       ·have HST := hd0 (show stepT ⟨mark, tx, ty, ax, ay, az, sx, sy, sz, count⟩ N t = P by unfold stepT; rw [if_neg h0]; exact hP)
        clear hP hpn
        go_wp2_with fail
        go_at_call 195; refine (HPL.out _).mono ?_; rintro e w' ⟨rfl, z1, rfl⟩
        cases hz : nearB P 1048576
        ·have hf := map_near_false (f := stepT ⟨mark, tx, ty, ax, ay, az, sx, sy, sz, count⟩ N) hlt2 (by rw [HTI.out, HST.out]; exact hz)
         rw [← HN.out] at hf
         obtain rfl : false = q := ks_false (f := stepT ⟨mark, tx, ty, ax, ay, az, sx, sy, sz, count⟩) HQ3.out hlt hf
         clear hf
         have HZ := hd0 hz
         clear hz
         go_wp2_with fail
         go_at_call 193; refine (isPlace_v _ _ _ HZ.out (by decide) _).mono ?_; rintro e w' ⟨rfl, z3, rfl⟩
         go_wp2
         go_ret
         exact Ret.of (HB3.out.trans ((show Below W3.heap.size W3 _ from gro).mono HB3.out.size))
        ·have HX := hd0 (take_near_succ (f := stepT ⟨mark, tx, ty, ax, ay, az, sx, sy, sz, count⟩ N) hlt2 HALL.out (by rw [HTI.out, HST.out]; exact hz))
         have HZ := hd0 hz
         clear hz
         go_wp2_with fail
         go_at_call 193; refine (isPlace_v _ _ _ HZ.out (by decide) _).mono ?_; rintro e w' ⟨rfl, z3, rfl⟩
         go_wp2
         go_roundw
         case rel => exact ⟨i + 1, by omega, by go_num, ext_of gro, HX.out⟩
         case measure => simp [intOf]; omega
      ·obtain rfl : i = T.length := by omega
       go_wp2
       go_roundw
       case rel => exact ⟨k + 1, by omega, by go_num, ext_of gro, fun j hj => by
        rcases Nat.lt_or_ge j k with h | h
        ·exact HNO.out j h
        ·obtain rfl : j = k := by omega
         rw [HN.out]
         have := HALL.out
         rwa [List.take_length] at this⟩
       case measure => simp [intOf]; omega
    ·obtain rfl : k = 2 := by omega
     obtain rfl : true = q := ks_true (f := stepT ⟨mark, tx, ty, ax, ay, az, sx, sy, sz, count⟩) HQ3.out HNO.out
     go_wp2
     go_ret
     exact Ret.of (HB3.out.trans ((show Below W3.heap.size W3 _ from gro).mono HB3.out.size))

set_option maxHeartbeats 2000000
set_option maxRecDepth 100000

theorem index1_c (b : Br) (m : ByteArray) (g : Nat) (w : World) (hg : w.cell? ⟨g, 0, none⟩ = some (.string m)) : Calls Tryz.prog 235 #[(.agg #[.string b.mark, .int .i64 b.size, .int .i64 b.count, .int .i64 b.code, b.dv]), .pointer (some ⟨g, 0, none⟩)] w (Ret w (.bool (b.mark.toList == m.toList))) := by
 go_enter Tryz.func235, Tryz.ntmps235
 go_wp2
 go_ret
 exact Ret.of gro
theorem enters_index1 : Enters 235 := enters_of Tryz.func235 (by decide) (by simp [Tryz.f235])
theorem index_c (l : List Br) (v : Value) (m : ByteArray) (w : World) (hl : Bars w v l) : Calls Tryz.prog 190 #[v, .string m] w (Ret w (.int .i64 (findI l m))) := by
 have HL := hd0 hl
 have HX := hd0 (fun F hE caps w hl hf => indexBar_c F hE caps m l v w hl hf)
 have HC := hd0 (show ∀ (b : Br) (x : World), b ∈ l → Calls Tryz.prog 235 (#[(.agg #[.string b.mark, .int .i64 b.size, .int .i64 b.count, .int .i64 b.code, b.dv])] ++ #[.pointer (some ⟨w.heap.size, 0, none⟩)]) (ext (w.alloc (.cells #[.string m] 9)) x) (Ret (ext (w.alloc (.cells #[.string m] 9)) x) (.bool (b.mark.toList == m.toList))) from
  fun b x _ => index1_c b m w.heap.size _ (by simp [go_sem]))
 clear hl
 generalize findI l m = k at *
 go_enter Tryz.func190, Tryz.ntmps190
 go_wp2_with fail
 go_at_call 66; refine (HX.out _ enters_index1 _ _ (HL.out.below gro) HC.out).mono ?_; rintro e w' ⟨rfl, x1, rfl⟩
 go_wp2
 go_ret
 exact Ret.of gro

def barOk (l : List Br) (i : Nat) : Bool := shapeB (l.getD i noBar) && decide (findI l (l.getD i noBar).mark = i)
theorem schedB_false {l : List Br} {k : Nat} (hk : k < l.length) (h : barOk l k = false) : schedB l = false := by
 unfold schedB
 rw [Bool.and_eq_false_iff]
 right
 rw [List.all_eq_false]
 exact ⟨k, List.mem_range.2 hk, by show ¬ barOk l k = true; rw [h]; exact Bool.false_ne_true⟩
theorem schedB_true {l : List Br} (h60 : l.length ≤ 60) (h : ∀ j, j < l.length → barOk l j = true) : schedB l = true := by
 unfold schedB
 rw [decide_eq_true h60, Bool.true_and, List.all_eq_true]
 exact fun j hj => h j (List.mem_range.1 hj)
theorem schedB_shape {l : List Br} (h : schedB l = true) : ∀ b ∈ l, shapeB b = true := by
 unfold schedB at h
 simp only [Bool.and_eq_true, List.all_eq_true, decide_eq_true_iff] at h
 intro b hb
 obtain ⟨j, hj, rfl⟩ := List.getElem_of_mem hb
 have := (h.2 j (List.mem_range.2 hj)).1
 rw [show l.getD j noBar = l[j] by simp [List.getD, hj]] at this
 exact this

theorem sched_v (l : List Br) (v : Value) (q : Bool) (hq : schedB l = q) (w : World) (hl : Bars w v l) : Calls Tryz.prog 138 #[v] w (Ret w (.bool q)) := by
 have HX := hd0 (fun m w hl => index_c l v m w hl)
 have HL := hd0 hl
 have HQ := hd0 hq
 obtain ⟨a, cap, rfl, h2, h3, h4⟩ := hl.shape
 have H4 := hd0 h4
 clear hl hq h4
 by_cases h60 : l.length ≤ 60
 ·have d1 : decide ((60 : Int) < (l.length : Int)) = false := by simp; omega
  go_enter Tryz.func138, Tryz.ntmps138
  go_wp2_with fail
  go_loopw [10] (fun i wr => ∃ k : Nat, k ≤ l.length ∧ i = .int .i64 k ∧ (∃ x, wr = ext w x) ∧ ∀ j, j < k → barOk l j = true) (fun i _ => l.length - (intOf i).toNat)
  case atStart => exact ⟨0, by omega, rfl, ext_of (Below.refl _ _), fun j h => by omega⟩
  case round =>
   obtain ⟨k, hk, rfl, ⟨x, rfl⟩, hno⟩ := hrel
   have HNO := hd0 hno
   clear hno
   by_cases hlt : k < l.length
   ·obtain ⟨hok, b0, off, rfl, hbr⟩ := H4.out k hlt
    have q1 : (0 : Int) ≤ (k : Int) := by omega
    have q2 : (k : Int) < (l.length : Int) := by omega
    have hbo : barOk l k = (shapeB l[k] && decide (findI l l[k].mark = k)) := by unfold barOk; rw [show l.getD k noBar = l[k] by simp [List.getD, hlt]]
    obtain ⟨b, hb⟩ : ∃ b, l[k] = b := ⟨_, rfl⟩
    rw [hb] at hbo hok hbr
    obtain ⟨c0, c1, c2, c3, c4⟩ := hbr.ext x
    obtain ⟨ad, cd, ev, _, _, _⟩ := hok.dims
    obtain ⟨mark, size, count, code, dims, dv⟩ := b
    simp only at ev c0 c1 c2 c3 c4 hbo
    subst ev
    have HOK := hd0 hok
    have HBO := hd0 hbo
    clear hb hbr hok hbo
    cases hs : shapeB ⟨mark, size, count, code, dims, .slice ad dims.length cd⟩
    ·obtain rfl : false = q := by rw [← HQ.out]; exact (schedB_false hlt (by rw [HBO.out, hs]; rfl)).symm
     have HS := hd0 hs
     clear hs
     go_wp2_with fail
     go_at_call 189; refine (shapeValid_v _ _ HS.out _ (HOK.out.below gro)).mono ?_; rintro e w' ⟨rfl, y1, rfl⟩
     go_wp2
     go_ret
     exact Ret.of gro
    ·have HS := hd0 hs
     clear hs
     obtain ⟨K, hK⟩ : ∃ K, findI l mark = K := ⟨_, rfl⟩
     have HK := hd0 hK
     clear hK
     by_cases hKk : K = k
     ·have HN : Hid (∀ j, j < k + 1 → barOk l j = true) := fun j hj => by
       rcases Nat.lt_or_ge j k with h | h
       ·exact HNO.out j h
       ·obtain rfl : j = k := by omega
        rw [HBO.out, HS.out, HK.out, decide_eq_true hKk]; rfl
      have e1 : (K != (k : Int)) = false := by simpa using hKk
      have HKK := hd0 hKk
      clear hKk
      go_wp2_with fail
      go_at_call 189; refine (shapeValid_v _ _ HS.out _ (HOK.out.below gro)).mono ?_; rintro e w' ⟨rfl, y1, rfl⟩
      go_wp2_with fail
      go_at_call 190; refine (HX.out mark _ (HL.out.below gro)).mono ?_; rintro e w' ⟨rfl, y2, rfl⟩
      rw [HK.out]
      go_wp2
      go_roundw
      case rel => exact ⟨k + 1, by omega, by go_num, ext_of gro, HN.out⟩
      case measure => simp [intOf]; omega
     ·obtain rfl : false = q := by rw [← HQ.out]; exact (schedB_false hlt (by rw [HBO.out, HK.out, decide_eq_false hKk, Bool.and_false])).symm
      have e1 : (K != (k : Int)) = true := by simpa using hKk
      clear hKk
      go_wp2_with fail
      go_at_call 189; refine (shapeValid_v _ _ HS.out _ (HOK.out.below gro)).mono ?_; rintro e w' ⟨rfl, y1, rfl⟩
      go_wp2_with fail
      go_at_call 190; refine (HX.out mark _ (HL.out.below gro)).mono ?_; rintro e w' ⟨rfl, y2, rfl⟩
      rw [HK.out]
      go_wp2
      go_ret
      exact Ret.of gro
   ·obtain rfl : k = l.length := by omega
    obtain rfl : true = q := by rw [← HQ.out]; exact (schedB_true h60 HNO.out).symm
    go_wp2
    go_ret
    exact Ret.of gro
 ·have d1 : decide ((60 : Int) < (l.length : Int)) = true := by simp; omega
  obtain rfl : false = q := by rw [← HQ.out]; unfold schedB; rw [decide_eq_false h60, Bool.false_and]
  go_enter Tryz.func138, Tryz.ntmps138
  go_wp2
  go_ret
  exact Ret.of gro

theorem countS_append (a b : List Rn) : countS (a ++ b) = countS a + countS b := by
 induction a with
 | nil => simp [countS]
 | cons x a ih => simp only [List.cons_append, countS, ih]; omega
theorem runB_count {l : List Br} {r : Rn} (h : runB l r = true) : 1 ≤ r.count ∧ r.count ≤ 1000 := by
 unfold runB rightR at h
 simp only [Bool.and_eq_true, decide_eq_true_iff] at h
 exact ⟨h.2.2.1, h.2.2.2.1⟩
theorem countS_nonneg {l : List Br} {rs : List Rn} (h : ∀ r ∈ rs, runB l r = true) : 0 ≤ countS rs := by
 induction rs with
 | nil => exact Int.le_refl _
 | cons r rs ih =>
   have h1 := runB_count (h r List.mem_cons_self)
   have h2 := ih fun x hx => h x (List.mem_cons_of_mem _ hx)
   simp only [countS]; omega
theorem count_take {rs : List Rn} {k : Nat} (h : k < rs.length) : countS (rs.take (k + 1)) = countS (rs.take k) + rs[k].count := by
 rw [List.take_succ_eq_append_getElem h, countS_append]; simp [countS]
theorem laidB_run_false {l : List Br} {rs : List Rn} {k : Nat} (hk : k < rs.length) (h : runB l rs[k] = false) : laidB l rs = false := by
 have : rs.all (runB l) = false := by rw [List.all_eq_false]; exact ⟨_, List.getElem_mem hk, by rw [h]; exact Bool.false_ne_true⟩
 unfold laidB
 rw [this, Bool.false_and, Bool.and_false, Bool.and_false]
theorem laidB_count_false {l : List Br} {rs : List Rn} {k : Nat} (h : 2000 < countS (rs.take k)) : laidB l rs = false := by
 unfold laidB
 rw [Bool.eq_false_iff]
 intro hh
 simp only [Bool.and_eq_true, decide_eq_true_iff, List.all_eq_true] at hh
 have h1 := countS_nonneg (rs := rs.drop k) fun r hr => hh.2.2.1 r (List.mem_of_mem_drop hr)
 have h2 := countS_append (rs.take k) (rs.drop k)
 rw [List.take_append_drop] at h2
 omega
theorem laidB_true {l : List Br} {rs : List Rn} (hs : schedB l = true) (h60 : rs.length ≤ 60) (h : ∀ r ∈ rs, runB l r = true) (hc : countS rs ≤ 2000) : laidB l rs = true := by
 unfold laidB
 rw [hs, decide_eq_true h60, List.all_eq_true.2 h, decide_eq_true hc]; rfl

theorem laidValid_v (l : List Br) (rs : List Rn) (v u : Value) (q : Bool) (hq : laidB l rs = q) (w : World) (hl : Bars w v l) (hr : Runs w u rs) : Calls Tryz.prog 84 #[v, u] w (Ret w (.bool q)) := by
 have HL := hd0 hl
 have HQ := hd0 hq
 obtain ⟨a, cap, rfl, h2, h3, h4⟩ := hr.shape
 have H4 := hd0 h4
 clear hl hr hq h4
 cases hs : schedB l
 ·obtain rfl : false = q := by rw [← HQ.out]; unfold laidB; rw [hs]; rfl
  have HS := hd0 hs
  clear hs
  go_enter Tryz.func84, Tryz.ntmps84
  go_wp2_with fail
  go_at_call 138; refine (sched_v l v _ HS.out _ (HL.out.below gro)).mono ?_; rintro e w' ⟨rfl, x1, rfl⟩
  go_wp2
  go_ret
  exact Ret.of gro
 ·have HB := hd0 (schedB_shape hs)
  have HS := hd0 hs
  clear hs
  by_cases h60 : rs.length ≤ 60
  ·have d1 : decide ((60 : Int) < (rs.length : Int)) = false := by simp; omega
   go_enter Tryz.func84, Tryz.ntmps84
   go_wp2_with fail
   go_at_call 138; refine (sched_v l v _ HS.out _ (HL.out.below gro)).mono ?_; rintro e w' ⟨rfl, x1, rfl⟩
   go_wp2_with fail
   go_loopw [5, 18] (fun m i wr => ∃ (k : Nat) (R : Int), k ≤ rs.length ∧ i = .int .i64 k ∧ m = .int .i64 R ∧ (0 ≤ R ∧ R ≤ 2000) ∧ R = 2000 - countS (rs.take k) ∧ (∃ x, wr = ext w x) ∧ ∀ r ∈ rs.take k, runB l r = true) (fun _ i _ => rs.length - (intOf i).toNat)
   case atStart => exact ⟨0, 2000, by omega, rfl, rfl, by omega, by simp [countS], ext_of gro, fun r h => by cases h⟩
   case round =>
    obtain ⟨k, R, hk, rfl, rfl, hR, hc, ⟨x, rfl⟩, hno⟩ := hrel
    have HNO := hd0 hno
    have HC := hd0 hc
    obtain ⟨R0, R1⟩ := hR
    clear hno hc
    by_cases hlt : k < rs.length
    ·obtain ⟨_, b0, off, rfl, hbr⟩ := H4.out k hlt
     have q1 : (0 : Int) ≤ (k : Int) := by omega
     have q2 : (k : Int) < (rs.length : Int) := by omega
     have hct := count_take hlt
     have htk : rs.take (k + 1) = rs.take k ++ [rs[k]] := List.take_succ_eq_append_getElem hlt
     have hrf : runB l rs[k] = false → laidB l rs = false := laidB_run_false hlt
     obtain ⟨r, hr⟩ : ∃ r, rs[k] = r := ⟨_, rfl⟩
     rw [hr] at hct htk hbr hrf
     obtain ⟨c0, c1, c2, c3, c4, c5, c6, c7, c8, c9⟩ := hbr.ext x
     have HCT := hd0 hct
     have HTK := hd0 htk
     have HRF := hd0 hrf
     clear hr hbr hct htk hrf
     cases hs : runB l r
     ·obtain rfl : false = q := by rw [← HQ.out]; exact (HRF.out hs).symm
      have HRU := hd0 hs
      clear hs
      go_wp2_with fail
      go_at_call 139; refine (right_v l v r _ HRU.out HB.out _ (HL.out.below gro)).mono ?_; rintro e w' ⟨rfl, y1, rfl⟩
      go_wp2
      go_ret
      exact Ret.of gro
     ·have hcb := runB_count hs
      have HRU := hd0 hs
      clear hs
      by_cases hgt : R < r.count
      ·obtain rfl : false = q := by rw [← HQ.out]; exact (laidB_count_false (k := k + 1) (by rw [HCT.out]; have := HC.out; omega)).symm
       go_wp2_with fail
       go_at_call 139; refine (right_v l v r _ HRU.out HB.out _ (HL.out.below gro)).mono ?_; rintro e w' ⟨rfl, y1, rfl⟩
       go_wp2
       go_ret
       exact Ret.of gro
      ·have hle : r.count ≤ R := by omega
       clear hgt
       go_wp2_with fail
       go_at_call 139; refine (right_v l v r _ HRU.out HB.out _ (HL.out.below gro)).mono ?_; rintro e w' ⟨rfl, y1, rfl⟩
       go_wp2
       go_roundw
       case rel => exact ⟨k + 1, R - r.count, by omega, by go_num, rfl, by omega, by rw [HCT.out]; have := HC.out; omega, ext_of gro, fun z hz => by
        rw [HTK.out] at hz
        rcases List.mem_append.1 hz with h | h
        ·exact HNO.out z h
        ·obtain rfl : z = r := by simpa using h
         exact HRU.out⟩
       case measure => simp [intOf]; omega
    ·obtain rfl : k = rs.length := by omega
     obtain rfl : true = q := by
      have h1 := HC.out
      have h2 := HNO.out
      rw [List.take_length] at h1 h2
      rw [← HQ.out]; exact (laidB_true HS.out h60 h2 (by omega)).symm
     go_wp2
     go_ret
     exact Ret.of gro
  ·have d1 : decide ((60 : Int) < (rs.length : Int)) = true := by simp; omega
   obtain rfl : false = q := by rw [← HQ.out]; unfold laidB; rw [decide_eq_false h60, Bool.false_and, Bool.and_false]
   go_enter Tryz.func84, Tryz.ntmps84
   go_wp2_with fail
   go_at_call 138; refine (sched_v l v _ HS.out _ (HL.out.below gro)).mono ?_; rintro e w' ⟨rfl, x1, rfl⟩
   go_wp2
   go_ret
   exact Ret.of gro

set_option maxHeartbeats 2000000
set_option maxRecDepth 100000

def placeR : List Rn → Int → Option (Rn × Int)
 | [], _ => none
 | r :: l, i => if i < r.count then some (r, i) else placeR l (i - r.count)
def countE (bars : List Br) (rs : List Rn) : Int × Int := if laidB bars rs = true then (countS rs, 0) else (0, 1)
def markE (bars : List Br) (rs : List Rn) (i : Int) : ByteArray × Int :=
 if laidB bars rs = true then (if i < 0 then (⟨#[]⟩, 2) else match placeR rs i with | some (r, _) => (r.mark, 0) | none => (⟨#[]⟩, 2)) else (⟨#[]⟩, 1)
theorem laidB_iff {bars : List Br} {rs : List Rn} : laidB bars rs = true ↔ schedB bars = true ∧ rs.length ≤ 60 ∧ (∀ r ∈ rs, runB bars r = true) ∧ countS rs ≤ 2000 := by
 unfold laidB
 simp only [Bool.and_eq_true, decide_eq_true_iff, List.all_eq_true]
theorem count_le {bars : List Br} {rs : List Rn} (h : laidB bars rs = true) (k : Nat) : 0 ≤ countS (rs.take k) ∧ countS (rs.take k) ≤ countS rs ∧ countS rs ≤ 2000 := by
 obtain ⟨_, _, h3, h4⟩ := laidB_iff.1 h
 have h1 := countS_nonneg (rs := rs.take k) fun r hr => h3 r (List.mem_of_mem_take hr)
 have h2 := countS_nonneg (rs := rs.drop k) fun r hr => h3 r (List.mem_of_mem_drop hr)
 have h5 := countS_append (rs.take k) (rs.drop k)
 rw [List.take_append_drop] at h5
 omega

theorem count_c (l : List Br) (rs : List Rn) (v u : Value) (w : World) (hl : Bars w v l) (hr : Runs w u rs) : Calls Tryz.prog 44 #[v, u] w (Ret w (.tuple #[.int .i64 (countE l rs).1, .int .i64 (countE l rs).2])) := by
 have HL := hd0 hl
 have HR := hd0 hr
 obtain ⟨a, cap, rfl, h2, h3, h4⟩ := hr.shape
 have H4 := hd0 h4
 clear hl hr h4
 unfold countE
 cases hv : laidB l rs
 ·simp only [Bool.false_eq_true, if_false]
  have HV := hd0 hv
  clear hv
  go_enter Tryz.func44, Tryz.ntmps44
  go_wp2_with fail
  go_at_call 84; refine (laidValid_v l rs v _ _ HV.out _ (HL.out.below gro) (HR.out.below gro)).mono ?_; rintro e w' ⟨rfl, x1, rfl⟩
  go_wp2
  go_ret2
  exact Ret.of gro
 ·simp only [if_true]
  have HV := hd0 hv
  clear hv
  go_enter Tryz.func44, Tryz.ntmps44
  go_wp2_with fail
  go_at_call 84; refine (laidValid_v l rs v _ _ HV.out _ (HL.out.below gro) (HR.out.below gro)).mono ?_; rintro e w' ⟨rfl, x1, rfl⟩
  go_wp2_with fail
  go_loopw [6, 15] (fun m i wr => ∃ (k : Nat) (R : Int), k ≤ rs.length ∧ i = .int .i64 k ∧ m = .int .i64 R ∧ (0 ≤ R ∧ R ≤ 2000) ∧ R = countS (rs.take k) ∧ (∃ x, wr = ext w x)) (fun _ i _ => rs.length - (intOf i).toNat)
  case atStart => exact ⟨0, 0, by omega, rfl, rfl, by omega, by simp [countS], ext_of gro⟩
  case round =>
   obtain ⟨k, R, hk, rfl, rfl, hR, hc, ⟨x, rfl⟩⟩ := hrel
   have HC := hd0 hc
   obtain ⟨R0, R1⟩ := hR
   clear hc
   by_cases hlt : k < rs.length
   ·obtain ⟨_, b0, off, rfl, hbr⟩ := H4.out k hlt
    have q1 : (0 : Int) ≤ (k : Int) := by omega
    have q2 : (k : Int) < (rs.length : Int) := by omega
    have hct := count_take hlt
    have hle := count_le HV.out (k + 1)
    have hcb := runB_count ((laidB_iff.1 HV.out).2.2.1 _ (List.getElem_mem hlt))
    obtain ⟨r, hr⟩ : ∃ r, rs[k] = r := ⟨_, rfl⟩
    rw [hr] at hct hbr hcb
    obtain ⟨c0, c1, c2, c3, c4, c5, c6, c7, c8, c9⟩ := hbr.ext x
    have hsum : 0 ≤ R + r.count ∧ R + r.count ≤ 2000 := by have := HC.out; omega
    have HCT := hd0 (show R + r.count = countS (rs.take (k + 1)) by rw [hct, HC.out])
    clear hr hbr hct hle
    go_wp2
    go_roundw
    case rel => exact ⟨k + 1, R + r.count, by omega, by go_num, rfl, hsum, HCT.out, ext_of gro⟩
    case measure => simp [intOf]; omega
   ·obtain rfl : k = rs.length := by omega
    obtain rfl : R = countS rs := by rw [HC.out, List.take_length]
    go_wp2
    go_ret2
    exact Ret.of gro

theorem mark_v (l : List Br) (rs : List Rn) (v u : Value) (i : Int) (m : ByteArray) (e : Int) (h : markE l rs i = (m, e)) (himax : i ≤ 9223372036854775807) (w : World) (hl : Bars w v l) (hr : Runs w u rs) : Calls Tryz.prog 64 #[v, u, .int .i64 i] w (Ret w (.tuple #[.string m, .int .i64 e])) := by
 have HL := hd0 hl
 have HR := hd0 hr
 obtain ⟨a, cap, rfl, h2, h3, h4⟩ := hr.shape
 have H4 := hd0 h4
 clear hl hr h4
 unfold markE at h
 cases hv : laidB l rs
 ·rw [hv] at h
  simp only [Bool.false_eq_true, if_false] at h
  cases h
  have HV := hd0 hv
  clear hv
  go_enter Tryz.func64, Tryz.ntmps64
  go_wp2_with fail
  go_at_call 84; refine (laidValid_v l rs v _ _ HV.out _ (HL.out.below gro) (HR.out.below gro)).mono ?_; rintro e w' ⟨rfl, x1, rfl⟩
  go_wp2
  go_ret2
  exact Ret.of gro
 ·rw [hv] at h
  simp only [if_true] at h
  have HV := hd0 hv
  clear hv
  by_cases hi : i < 0
  ·rw [if_pos hi] at h
   cases h
   go_enter Tryz.func64, Tryz.ntmps64
   go_wp2_with fail
   go_at_call 84; refine (laidValid_v l rs v _ _ HV.out _ (HL.out.below gro) (HR.out.below gro)).mono ?_; rintro e w' ⟨rfl, x1, rfl⟩
   go_wp2
   go_ret2
   exact Ret.of gro
  ·rw [if_neg hi] at h
   have H := hd0 h
   have hi0 : 0 ≤ i := by omega
   clear h hi
   obtain ⟨o, ho⟩ : ∃ o, placeR rs i = o := ⟨_, rfl⟩
   rw [ho] at H
   have HO := hd0 ho
   clear ho
   go_enter Tryz.func64, Tryz.ntmps64
   go_wp2_with fail
   go_at_call 84; refine (laidValid_v l rs v _ _ HV.out _ (HL.out.below gro) (HR.out.below gro)).mono ?_; rintro e w' ⟨rfl, x1, rfl⟩
   go_wp2_with fail
   go_loopw [2, 18] (fun iv j wr => ∃ (k : Nat) (I : Int), k ≤ rs.length ∧ j = .int .i64 k ∧ iv = .int .i64 I ∧ (0 ≤ I ∧ I ≤ 9223372036854775807) ∧ placeR (rs.drop k) I = o ∧ ∃ x, wr = ext w x) (fun _ j _ => rs.length - (intOf j).toNat)
   case atStart => exact ⟨0, i, by omega, rfl, rfl, by omega, HO.out, _, rfl⟩
   case round =>
    obtain ⟨k, I, hk, rfl, rfl, hI, hp, x, rfl⟩ := hrel
    have HP := hd0 hp
    obtain ⟨I0, I1⟩ := hI
    clear hp HO
    by_cases hlt : k < rs.length
    ·obtain ⟨_, b0, off, rfl, hbr⟩ := H4.out k hlt
     have q1 : (0 : Int) ≤ (k : Int) := by omega
     have q2 : (k : Int) < (rs.length : Int) := by omega
     have hcb := runB_count ((laidB_iff.1 HV.out).2.2.1 _ (List.getElem_mem hlt))
     have hpl := HP.out
     rw [List.drop_eq_getElem_cons hlt, placeR] at hpl
     obtain ⟨r, hr⟩ : ∃ r, rs[k] = r := ⟨_, rfl⟩
     rw [hr] at hbr hcb hpl
     obtain ⟨c0, c1, c2, c3, c4, c5, c6, c7, c8, c9⟩ := hbr.ext x
     clear hr hbr HP
     by_cases hlt2 : I < r.count
     ·rw [if_pos hlt2] at hpl
      subst hpl
      have hh := H.out
      simp only [Prod.mk.injEq] at hh
      obtain ⟨h5, h6⟩ := hh
      subst h5 h6
      go_wp2
      go_ret2
      exact Ret.of gro
     ·rw [if_neg hlt2] at hpl
      have HPL := hd0 hpl
      clear hpl
      go_wp2
      go_roundw
      case rel => exact ⟨k + 1, I - r.count, by omega, by go_num, rfl, by omega, HPL.out, ext_of gro⟩
      case measure => simp [intOf]; omega
    ·obtain rfl : k = rs.length := by omega
     have hpl := HP.out
     rw [List.drop_length, placeR] at hpl
     subst hpl
     have hh := H.out
     simp only [Prod.mk.injEq] at hh
     obtain ⟨h5, h6⟩ := hh
     subst h5 h6
     clear H HP
     go_wp2
     go_ret2
     exact Ret.of gro

end Go.Proofs.YtkjljneehgmmaaaGreat

