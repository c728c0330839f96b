/- A run is right: laid.right. -/
import Derived.Test.YtofjopdcbmaijaaLaidG
import Derived.Deep.DeepCutAuto
namespace Go.Proofs.Ytofjopdcbmaijaa
open Go.RowKit
set_option maxRecDepth 20000

def right1 (l : List Br) (r : Rn) : Bool := decide (0 ≤ findI l r.mark) && (turnB r.tx r.ty && (decide (1 ≤ r.count) && (decide (r.count ≤ 1000) && nearB ⟨r.ax, r.ay, r.az⟩ 1048576)))
def right2 (r : Rn) : Bool := decide (r.count ≤ 1) || (!(decide (r.sx = 0) && (decide (r.sy = 0) && decide (r.sz = 0))) && nearB ⟨r.sx, r.sy, r.sz⟩ 2097152)
theorem runB_eq (l : List Br) (r : Rn) : runB l r = (right1 l r && (right2 r && ((laidL (barOf l r.mark) r 0).all (fun p => nearB p 1048576) && (laidL (barOf l r.mark) r (r.count - 1)).all (fun p => nearB p 1048576)))) := by
  unfold runB rightR right1 right2
  simp only [Bool.and_assoc]

theorem bar_mem {l : List Br} {m : ByteArray} (h : 0 ≤ findI l m) : barOf l m ∈ l := by
  rcases findI_cases l m with ⟨e, _⟩ | ⟨k, hkl, e, _, _⟩
  · rw [e] at h; exact absurd h (by decide)
  · unfold barOf; rw [e]; simp [hkl]
/-- A turned point, laid. -/
def stepT (r : Rn) (k : Int) (t : Pt) : Pt := if 0 < k then plusP (plusP t ⟨r.ax, r.ay, r.az⟩ 1) ⟨r.sx, r.sy, r.sz⟩ k else plusP t ⟨r.ax, r.ay, r.az⟩ 1
theorem laidL_eq (b : Br) (r : Rn) {k : Int} (hk : 0 ≤ k) : laidL b r k = (turnedL b r).map (stepT r k) := by
  unfold laidL turnedL
  rw [List.map_map]
  apply List.map_congr_left
  intro p _
  unfold laidP stepT plusP
  simp only [Function.comp_apply]
  split
  · simp only [Int.one_mul]
  · obtain rfl : k = 0 := by omega
    simp only [Int.one_mul, Int.zero_mul, Int.add_zero]
theorem turnedL_near {b : Br} {r : Rn} (hs : shapeB b = true) (ht : turnB r.tx r.ty = true) : ∀ p ∈ turnedL b r, NearP p 1048576 := by
  intro p hp
  unfold turnedL at hp
  obtain ⟨q, hq, rfl⟩ := List.mem_map.1 hp
  exact img_near ht (path_near hs q hq)
theorem turnedL_len (b : Br) (r : Rn) : (turnedL b r).length ≤ 7 := by
  unfold turnedL; rw [List.length_map]; exact (path_len b).2
theorem take_near_succ {l : List Pt} {f : Pt → Pt} {k : Nat} (h : k < l.length) (h1 : ((l.take k).map f).all (fun p => nearB p 1048576) = true) (h2 : nearB (f l[k]) 1048576 = true) : ((l.take (k + 1)).map f).all (fun p => nearB p 1048576) = true := by
  rw [List.take_succ_eq_append_getElem h, List.map_append, List.all_append, h1]
  simpa using h2
theorem map_near_false {l : List Pt} {f : Pt → Pt} {k : Nat} (h : k < l.length) (h2 : nearB (f l[k]) 1048576 = false) : (l.map f).all (fun p => nearB p 1048576) = false := by
  rw [List.all_eq_false]
  exact ⟨f l[k], List.mem_map.2 ⟨_, List.getElem_mem h, rfl⟩, by rw [h2]; exact Bool.false_ne_true⟩

/-- The two numbers that laid.right looks at. -/
def ksN (count : Int) (j : Nat) : Int := if j = 0 then 0 else count - 1

theorem ks_false {T : List Pt} {f : Int → Pt → Pt} {count : Int} {q : Bool} (hq : (((T.map (f 0)).all fun p => nearB p 1048576) && ((T.map (f (count - 1))).all fun p => nearB p 1048576)) = q) {k : Nat} (hk : k < 2) (h : ((T.map (f (ksN count k))).all fun p => nearB p 1048576) = false) : false = q := by
  rcases (show k = 0 ∨ k = 1 by omega) with rfl | rfl
  · rw [show ksN count 0 = 0 from rfl] at h
    rw [← hq, h]; rfl
  · rw [show ksN count 1 = count - 1 from rfl] at h
    rw [← hq, h, Bool.and_false]
theorem ks_true {T : List Pt} {f : Int → Pt → Pt} {count : Int} {q : Bool} (hq : (((T.map (f 0)).all fun p => nearB p 1048576) && ((T.map (f (count - 1))).all fun p => nearB p 1048576)) = q) (h : ∀ j, j < 2 → ((T.map (f (ksN count j))).all fun p => nearB p 1048576) = true) : true = q := by
  have h0 := h 0 (by omega)
  have h1 := h 1 (by omega)
  rw [show ksN count 0 = 0 from rfl] at h0
  rw [show ksN count 1 = count - 1 from rfl] at h1
  rw [← hq, h0, h1]; rfl

def rnCells (r : Rn) : Array Value := #[.string r.mark, .int .i64 r.tx, .int .i64 r.ty, .int .i64 r.ax, .int .i64 r.ay, .int .i64 r.az, .int .i64 r.sx, .int .i64 r.sy, .int .i64 r.sz, .int .i64 r.count]

set_option maxRecDepth 100000 in
set_option maxHeartbeats 4000000 in
theorem right_v (l : List Br) (v : Value) (r : Rn) (q : Bool) (hq : runB l r = q) (hs : ∀ b ∈ l, shapeB b = true) (w : World) (hl : Bars w v l) :
    Calls Try.prog 36 #[v, (.agg #[.string r.mark, .int .i64 r.tx, .int .i64 r.ty, .int .i64 r.ax, .int .i64 r.ay, .int .i64 r.az, .int .i64 r.sx, .int .i64 r.sy, .int .i64 r.sz, .int .i64 r.count])] w (Ret w (.bool q)) := by
  have HF := Lib.hid (fun w hl => find_c l v r.mark w hl)
  have HT := Lib.hid (fun q h w => frameValid_v r.tx r.ty q h w)
  have HA := Lib.hid (fun q h w => isPlace_v ⟨r.ax, r.ay, r.az⟩ 1048576 q h (by decide) w)
  have HS := Lib.hid (fun q h w => isPlace_v ⟨r.sx, r.sy, r.sz⟩ 2097152 q h (by decide) w)
  have HL := Lib.hid hl
  rw [runB_eq] at hq
  have HQ := Lib.hid hq
  have HB := Lib.hid hs
  obtain ⟨ok, HK⟩ : ∃ q, Hid (right1 l r = q) := ⟨_, Lib.hid rfl⟩
  obtain ⟨ok2, HK2⟩ : ∃ q, Hid (right2 r = q) := ⟨_, Lib.hid rfl⟩
  clear hs hl hq
  go_enter Try.func36, Try.ntmps36
  go_upto_region 1 with fail
  refine world_mask (fun W => (∃ x, W = ext w x) ∧ Blk W w.heap.size (rnCells r) 41) _ ⟨ext_of (by (repeat (first | exact grow_refl _ | refine grow_ext _ ?_ | refine grow_alloc _ ?_ | refine grow_drew ?_))), Blk.new' rfl _ _⟩ ?_
  rintro W1 ⟨⟨x, rfl⟩, hR⟩
  have c0 : (ext w x).cell? ⟨w.heap.size, 0, none⟩ = some (.string r.mark) := hR.cell 0
  have c1 : (ext w x).cell? ⟨w.heap.size, 1, none⟩ = some (.int .i64 r.tx) := hR.cell 1
  have c2 : (ext w x).cell? ⟨w.heap.size, 2, none⟩ = some (.int .i64 r.ty) := hR.cell 2
  have c3 : (ext w x).cell? ⟨w.heap.size, 3, none⟩ = some (.int .i64 r.ax) := hR.cell 3
  have c4 : (ext w x).cell? ⟨w.heap.size, 4, none⟩ = some (.int .i64 r.ay) := hR.cell 4
  have c5 : (ext w x).cell? ⟨w.heap.size, 5, none⟩ = some (.int .i64 r.az) := hR.cell 5
  have c6 : (ext w x).cell? ⟨w.heap.size, 6, none⟩ = some (.int .i64 r.sx) := hR.cell 6
  have c7 : (ext w x).cell? ⟨w.heap.size, 7, none⟩ = some (.int .i64 r.sy) := hR.cell 7
  have c8 : (ext w x).cell? ⟨w.heap.size, 8, none⟩ = some (.int .i64 r.sz) := hR.cell 8
  have c9 : (ext w x).cell? ⟨w.heap.size, 9, none⟩ = some (.int .i64 r.count) := hR.cell 9
  have HRB := Lib.hid hR
  clear hR
  obtain ⟨W1, hW1⟩ : ∃ W, W = ext w x := ⟨_, rfl⟩
  have HW1 := Lib.hid hW1
  rw [← hW1] at c0 c1 c2 c3 c4 c5 c6 c7 c8 c9 HRB ⊢
  clear hW1
  have HL1 := Lib.hid (show Bars W1 v l by rw [HW1.out]; exact HL.out.ext _)
  obtain ⟨K, HKK⟩ : ∃ K, Hid (findI l r.mark = K) := ⟨_, Lib.hid rfl⟩
  rw [HKK.out] at HF
  obtain ⟨mark, tx, ty, ax, ay, az, sx, sy, sz, count⟩ := r
  simp only at *
  go_cut [37] (fun s wx => s = .bool (!ok) ∧ ∃ x, wx = ext W1 x)
  case first =>
    have hok := HK.out
    unfold right1 at hok
    simp only [HKK.out] at hok
    by_cases h1 : 0 ≤ K
    · rw [decide_eq_true h1, Bool.true_and] at hok
      cases h2 : turnB tx ty
      · obtain rfl : false = ok := by rw [← hok, h2]; rfl
        have H2 := Lib.hid h2
        clear h2 hok
        go_wp2_with fail
        go_at_call 50; refine (HF.out _ (HL1.out.below (by (repeat (first | exact grow_refl _ | refine grow_ext _ ?_ | refine grow_alloc _ ?_ | refine grow_drew ?_))))).mono ?_; rintro e w' ⟨rfl, y1, rfl⟩
        go_wp2_with fail
        go_at_call 51; refine (HT.out _ H2.out _).mono ?_; rintro e w' ⟨rfl, y2, rfl⟩
        go_wp2
        go_meet
        exact ⟨rfl, ext_of (by (repeat (first | exact grow_refl _ | refine grow_ext _ ?_ | refine grow_alloc _ ?_ | refine grow_drew ?_)))⟩
      · rw [h2, Bool.true_and] at hok
        have H2 := Lib.hid h2
        clear h2
        by_cases h3 : 1 ≤ count
        · rw [decide_eq_true h3, Bool.true_and] at hok
          by_cases h4 : count ≤ 1000
          · rw [decide_eq_true h4, Bool.true_and] at hok
            have H5 := Lib.hid hok
            clear hok
            go_wp2_with fail
            go_at_call 50; refine (HF.out _ (HL1.out.below (by (repeat (first | exact grow_refl _ | refine grow_ext _ ?_ | refine grow_alloc _ ?_ | refine grow_drew ?_))))).mono ?_; rintro e w' ⟨rfl, y1, rfl⟩
            go_wp2_with fail
            go_at_call 51; refine (HT.out _ H2.out _).mono ?_; rintro e w' ⟨rfl, y2, rfl⟩
            go_wp2_with fail
            go_at_call 32; refine (HA.out _ H5.out _).mono ?_; rintro e w' ⟨rfl, y3, rfl⟩
            go_wp2
            go_meet
            exact ⟨by rw [decide_eq_false (by omega : ¬ K < 0), decide_eq_false (by omega : ¬ count < 1), decide_eq_false (by omega : ¬ 1000 < count)]; rfl, ext_of (by (repeat (first | exact grow_refl _ | refine grow_ext _ ?_ | refine grow_alloc _ ?_ | refine grow_drew ?_)))⟩
          · obtain rfl : false = ok := by rw [← hok, decide_eq_false h4]; rfl
            clear hok
            go_wp2_with fail
            go_at_call 50; refine (HF.out _ (HL1.out.below (by (repeat (first | exact grow_refl _ | refine grow_ext _ ?_ | refine grow_alloc _ ?_ | refine grow_drew ?_))))).mono ?_; rintro e w' ⟨rfl, y1, rfl⟩
            go_wp2_with fail
            go_at_call 51; refine (HT.out _ H2.out _).mono ?_; rintro e w' ⟨rfl, y2, rfl⟩
            go_wp2
            go_meet
            exact ⟨rfl, ext_of (by (repeat (first | exact grow_refl _ | refine grow_ext _ ?_ | refine grow_alloc _ ?_ | refine grow_drew ?_)))⟩
        · obtain rfl : false = ok := by rw [← hok, decide_eq_false h3]; rfl
          clear hok
          go_wp2_with fail
          go_at_call 50; refine (HF.out _ (HL1.out.below (by (repeat (first | exact grow_refl _ | refine grow_ext _ ?_ | refine grow_alloc _ ?_ | refine grow_drew ?_))))).mono ?_; rintro e w' ⟨rfl, y1, rfl⟩
          go_wp2_with fail
          go_at_call 51; refine (HT.out _ H2.out _).mono ?_; rintro e w' ⟨rfl, y2, rfl⟩
          go_wp2
          go_meet
          exact ⟨rfl, ext_of (by (repeat (first | exact grow_refl _ | refine grow_ext _ ?_ | refine grow_alloc _ ?_ | refine grow_drew ?_)))⟩
    · obtain rfl : false = ok := by rw [← hok, decide_eq_false h1]; rfl
      clear hok
      go_wp2_with fail
      go_at_call 50; refine (HF.out _ (HL1.out.below (by (repeat (first | exact grow_refl _ | refine grow_ext _ ?_ | refine grow_alloc _ ?_ | refine grow_drew ?_))))).mono ?_; rintro e w' ⟨rfl, y1, rfl⟩
      go_wp2
      go_meet
      exact ⟨rfl, ext_of (by (repeat (first | exact grow_refl _ | refine grow_ext _ ?_ | refine grow_alloc _ ?_ | refine grow_drew ?_)))⟩
  case rest =>
    obtain ⟨rfl, y, rfl⟩ := hcut
    have hq := HQ.out
    rw [HK.out] at hq
    cases ok
    · obtain rfl : false = q := by rw [← hq]; rfl
      clear hq
      go_wp2
      go_ret
      exact Ret.of (by rw [HW1.out]; (repeat (first | exact grow_refl _ | refine grow_ext _ ?_ | refine grow_alloc _ ?_ | refine grow_drew ?_)))
    rw [Bool.true_and] at hq
    have HQ2 := Lib.hid hq
    clear hq HQ
    have hr := HK.out
    unfold right1 at hr
    simp only [Bool.and_eq_true, decide_eq_true_iff] at hr
    obtain ⟨k1, k2, k3, k4, k5⟩ := hr
    rw [HKK.out] at k1
    have HT2 := Lib.hid k2
    have HA5 := Lib.hid (near_iff.1 k5)
    clear k2 k5 HA HT HF
    go_upto_region 3 with fail
    go_cut [52] (fun s wx => s = .bool (!ok2) ∧ ∃ x, wx = ext W1 x)
    case first =>
      have hok := HK2.out
      unfold right2 at hok
      simp only at hok
      by_cases h1 : 1 < count
      · rw [decide_eq_false (by omega), Bool.false_or] at hok
        cases h3 : nearB ⟨sx, sy, sz⟩ 2097152
        all_goals
          rw [h3] at hok
          have H3 := Lib.hid h3
          clear h3
          by_cases a1 : sx = 0
          · by_cases a2 : sy = 0
            · by_cases a3 : sz = 0
              · obtain rfl : false = ok2 := by rw [← hok, a1, a2, a3]; rfl
                subst a1 a2 a3
                clear hok HS H3
                go_wp2
                go_meet
                exact ⟨rfl, ext_of (by (repeat (first | exact grow_refl _ | refine grow_ext _ ?_ | refine grow_alloc _ ?_ | refine grow_drew ?_)))⟩
              · have e3 : (sz == 0) = false := by simpa using a3
                simp [a3] at hok
                subst hok a1 a2
                go_wp2_with fail
                go_at_call 32; refine (HS.out _ H3.out _).mono ?_; rintro e w' ⟨rfl, y5, rfl⟩
                go_wp2
                go_meet
                exact ⟨rfl, ext_of (by (repeat (first | exact grow_refl _ | refine grow_ext _ ?_ | refine grow_alloc _ ?_ | refine grow_drew ?_)))⟩
            · have e3 : (sy == 0) = false := by simpa using a2
              simp [a2] at hok
              subst hok a1
              go_wp2_with fail
              go_at_call 32; refine (HS.out _ H3.out _).mono ?_; rintro e w' ⟨rfl, y5, rfl⟩
              go_wp2
              go_meet
              exact ⟨rfl, ext_of (by (repeat (first | exact grow_refl _ | refine grow_ext _ ?_ | refine grow_alloc _ ?_ | refine grow_drew ?_)))⟩
          · have e3 : (sx == 0) = false := by simpa using a1
            simp [a1] at hok
            subst hok
            go_wp2_with fail
            go_at_call 32; refine (HS.out _ H3.out _).mono ?_; rintro e w' ⟨rfl, y5, rfl⟩
            go_wp2
            go_meet
            exact ⟨rfl, ext_of (by (repeat (first | exact grow_refl _ | refine grow_ext _ ?_ | refine grow_alloc _ ?_ | refine grow_drew ?_)))⟩
      · rw [decide_eq_true (by omega), Bool.true_or] at hok
        subst hok
        go_wp2
        go_meet
        exact ⟨rfl, ext_of (by (repeat (first | exact grow_refl _ | refine grow_ext _ ?_ | refine grow_alloc _ ?_ | refine grow_drew ?_)))⟩
    case rest =>
      obtain ⟨rfl, y2, rfl⟩ := hcut
      have hq := HQ2.out
      rw [HK2.out] at hq
      cases ok2
      · obtain rfl : false = q := by rw [← hq]; rfl
        clear hq
        go_wp2
        go_ret
        exact Ret.of (by rw [HW1.out]; (repeat (first | exact grow_refl _ | refine grow_ext _ ?_ | refine grow_alloc _ ?_ | refine grow_drew ?_)))
      rw [Bool.true_and] at hq
      have hsm := HK2.out
      unfold right2 at hsm
      simp only [Bool.or_eq_true, Bool.and_eq_true, decide_eq_true_iff] at hsm
      have HSM := Lib.hid (show 1 < count → NearP ⟨sx, sy, sz⟩ 2097152 from fun h => by
        rcases hsm with h' | h'
        · omega
        · exact near_iff.1 h'.2)
      clear hsm HS HQ2
      have hbm : shapeB (barOf l mark) = true := HB.out _ (bar_mem (by rw [HKK.out]; exact k1))
      have HTU := Lib.hid (fun w hl => turned_c l v ⟨mark, tx, ty, ax, ay, az, sx, sy, sz, count⟩ (by show 0 ≤ findI l mark; rw [HKK.out]; exact k1) hbm HT2.out w hl)
      have htn := turnedL_near (r := ⟨mark, tx, ty, ax, ay, az, sx, sy, sz, count⟩) hbm HT2.out
      have htl := turnedL_len (barOf l mark) ⟨mark, tx, ty, ax, ay, az, sx, sy, sz, count⟩
      rw [laidL_eq _ _ (Int.le_refl 0), laidL_eq _ _ (show 0 ≤ count - 1 by omega)] at hq
      simp only at HTU
      generalize turnedL (barOf l mark) ⟨mark, tx, ty, ax, ay, az, sx, sy, sz, count⟩ = T at *
      have HTN := Lib.hid htn
      have HQ3 := Lib.hid hq
      clear hbm htn hq HB
      go_wp2_with fail
      go_at_call 52; refine (HTU.out _ (HL1.out.below (by (repeat (first | exact grow_refl _ | refine grow_ext _ ?_ | refine grow_alloc _ ?_ | refine grow_drew ?_))))).mono ?_; rintro e w' ⟨v5, rfl, hown, y3, rfl⟩
      have hpt := Pts.of_own hown
      obtain ⟨a5, cap5, rfl, l1, l2, l3⟩ := hpt.shape
      have HPT := Lib.hid hpt
      clear hown hpt l3
      go_wp2_with fail
      obtain ⟨g, hg⟩ : ∃ g, g = W1.heap.size + y2.heap.size + y3.heap.size := ⟨_, rfl⟩
      rw [← hg]
      refine world_mask (fun W => Below w.heap.size w W ∧ Blk W w.heap.size (rnCells ⟨mark, tx, ty, ax, ay, az, sx, sy, sz, count⟩) 41 ∧ Blk W g #[.int .i64 0, .int .i64 (count - 1)] 3 ∧ Pts W (.slice a5 T.length cap5) T) _ ⟨?_, ?_, ?_, ?_⟩ ?_
      · rw [HW1.out]; (repeat (first | exact grow_refl _ | refine grow_ext _ ?_ | refine grow_alloc _ ?_ | refine grow_drew ?_))
      · exact ((HRB.out.ext _).ext _).alloc _
      · rw [hg]; exact Blk.new' (by simp only [size_ext]) _ _
      · exact HPT.out.below (by (repeat (first | exact grow_refl _ | refine grow_ext _ ?_ | refine grow_alloc _ ?_ | refine grow_drew ?_)))
      clear hg c0 c1 c2 c3 c4 c5 c6 c7 c8 c9 HPT
      rintro W3 ⟨hb3, hr3, hg3, hp3⟩
      have HB3 := Lib.hid hb3
      have HR3 := Lib.hid hr3
      have HG3 := Lib.hid hg3
      have HP3 := Lib.hid hp3
      clear hb3 hr3 hg3 hp3
      go_loopw [61] (fun j wr => ∃ k : Nat, k ≤ 2 ∧ j = .int .i64 k ∧ (∃ x, wr = ext W3 x) ∧ ∀ j, j < k → ((T.map (stepT ⟨mark, tx, ty, ax, ay, az, sx, sy, sz, count⟩ (ksN count j))).all fun p => nearB p 1048576) = true) (fun j _ => 2 - (intOf j).toNat)
      case atStart => exact ⟨0, by omega, rfl, ext_of (Below.refl _ _), fun j h => by omega⟩
      case round =>
        obtain ⟨k, hk, rfl, ⟨x, rfl⟩, hno⟩ := hrel
        have HNO := Lib.hid hno
        clear hno
        by_cases hlt : k < 2
        · have q1 : (0 : Int) ≤ (k : Int) := by omega
          have q2 : (k : Int) < 2 := by omega
          have d0 : (ext W3 x).cell? ⟨g, k, none⟩ = some (.int .i64 (ksN count k)) := by
            rw [(HG3.out.ext x).cell k]
            rcases (show k = 0 ∨ k = 1 by omega) with rfl | rfl <;> rfl
          have hks : 0 ≤ ksN count k ∧ ksN count k ≤ 999 ∧ (0 < ksN count k → 1 < count) := by
            unfold ksN; split <;> omega
          obtain ⟨N, hN⟩ : ∃ N, ksN count k = N := ⟨_, rfl⟩
          rw [hN] at d0 hks
          have HN := Lib.hid hN
          obtain ⟨n1, n2, n3⟩ := hks
          have HN3 := Lib.hid n3
          clear hN n3
          go_wp2_with fail
          clear d0
          go_loopw [67] (fun i wr => ∃ k : Nat, k ≤ T.length ∧ i = .int .i64 k ∧ (∃ x, wr = ext W3 x) ∧ (((T.take k).map (stepT ⟨mark, tx, ty, ax, ay, az, sx, sy, sz, count⟩ N)).all fun p => nearB p 1048576) = true) (fun i _ => T.length - (intOf i).toNat)
          case atStart => exact ⟨0, by omega, rfl, ⟨_, rfl⟩, rfl⟩
          case round =>
            obtain ⟨i, hi, rfl, ⟨z, rfl⟩, hall⟩ := hrel
            have HALL := Lib.hid hall
            clear hall
            by_cases hlt2 : i < T.length
            · have q3 : (0 : Int) ≤ (i : Int) := by omega
              have q4 : (i : Int) < (T.length : Int) := by omega
              obtain ⟨b, off, ea, hpt⟩ := (HP3.out.ext z).shape.elim fun a h => h.elim fun cap h => by
                obtain ⟨e, _, _, h4⟩ := h
                cases e
                exact h4 i hlt2
              subst ea
              obtain ⟨p0, p1, p2⟩ := hpt
              have htn := HTN.out _ (List.getElem_mem hlt2)
              obtain ⟨t, ht⟩ : ∃ t, T[i] = t := ⟨_, rfl⟩
              rw [ht] at p0 p1 p2 htn
              have HTI := Lib.hid ht
              have rb := HR3.out.ext z
              have c3 : (ext W3 z).cell? ⟨w.heap.size, 3, none⟩ = some (.int .i64 ax) := rb.cell 3
              have c4 : (ext W3 z).cell? ⟨w.heap.size, 4, none⟩ = some (.int .i64 ay) := rb.cell 4
              have c5 : (ext W3 z).cell? ⟨w.heap.size, 5, none⟩ = some (.int .i64 az) := rb.cell 5
              have c6 : (ext W3 z).cell? ⟨w.heap.size, 6, none⟩ = some (.int .i64 sx) := rb.cell 6
              have c7 : (ext W3 z).cell? ⟨w.heap.size, 7, none⟩ = some (.int .i64 sy) := rb.cell 7
              have c8 : (ext W3 z).cell? ⟨w.heap.size, 8, none⟩ = some (.int .i64 sz) := rb.cell 8
              obtain ⟨t1, t2, t3⟩ := htn
              obtain ⟨s1, s2, s3⟩ := HA5.out
              have HPL := Lib.hid (fun w => plus_c t ⟨ax, ay, az⟩ 1 (by unfold NearP; omega) (by unfold NearP; omega) (by omega) w)
              have hpn : NearP (plusP t ⟨ax, ay, az⟩ 1) 8388608 := by unfold NearP plusP; simp only at *; omega
              obtain ⟨P, hP⟩ : ∃ P, plusP t ⟨ax, ay, az⟩ 1 = P := ⟨_, rfl⟩
              rw [hP] at hpn HPL
              clear t1 t2 t3 s1 s2 s3 ht rb
              by_cases h0 : 0 < N
              · have HPS := Lib.hid (fun w => plus_c P ⟨sx, sy, sz⟩ N hpn (HSM.out (HN3.out h0)) (by omega) w)
                obtain ⟨Q, hQ⟩ : ∃ Q, plusP P ⟨sx, sy, sz⟩ N = Q := ⟨_, rfl⟩
                rw [hQ] at HPS
                have HST := Lib.hid (show stepT ⟨mark, tx, ty, ax, ay, az, sx, sy, sz, count⟩ N t = Q by unfold stepT; rw [if_pos h0]; simp only; rw [hP, hQ])
                clear hP hQ hpn
                go_wp2_with fail
                go_at_call 34; refine (HPL.out _).mono ?_; rintro e w' ⟨rfl, z1, rfl⟩
                go_wp2_with fail
                go_at_call 34; refine (HPS.out _).mono ?_; rintro e w' ⟨rfl, z2, rfl⟩
                cases hz : nearB Q 1048576
                · have hf := map_near_false (f := stepT ⟨mark, tx, ty, ax, ay, az, sx, sy, sz, count⟩ N) hlt2 (by rw [HTI.out, HST.out]; exact hz)
                  rw [← HN.out] at hf
                  obtain rfl : false = q := ks_false (f := stepT ⟨mark, tx, ty, ax, ay, az, sx, sy, sz, count⟩) HQ3.out hlt hf
                  clear hf
                  have HZ := Lib.hid hz
                  clear hz
                  go_wp2_with fail
                  go_at_call 32; refine (isPlace_v _ _ _ HZ.out (by decide) _).mono ?_; rintro e w' ⟨rfl, z3, rfl⟩
                  go_wp2
                  go_ret
                  exact Ret.of (HB3.out.trans ((show Below W3.heap.size W3 _ by (repeat (first | exact grow_refl _ | refine grow_ext _ ?_ | refine grow_alloc _ ?_ | refine grow_drew ?_))).mono HB3.out.size))
                · have HX := Lib.hid (take_near_succ (f := stepT ⟨mark, tx, ty, ax, ay, az, sx, sy, sz, count⟩ N) hlt2 HALL.out (by rw [HTI.out, HST.out]; exact hz))
                  have HZ := Lib.hid hz
                  clear hz
                  go_wp2_with fail
                  go_at_call 32; refine (isPlace_v _ _ _ HZ.out (by decide) _).mono ?_; rintro e w' ⟨rfl, z3, rfl⟩
                  go_wp2
                  go_roundw
                  case rel => exact ⟨i + 1, by omega, by go_num, ext_of (by (repeat (first | exact grow_refl _ | refine grow_ext _ ?_ | refine grow_alloc _ ?_ | refine grow_drew ?_))), HX.out⟩
                  case measure => simp [intOf]; omega
              · have HST := Lib.hid (show stepT ⟨mark, tx, ty, ax, ay, az, sx, sy, sz, count⟩ N t = P by unfold stepT; rw [if_neg h0]; exact hP)
                clear hP hpn
                go_wp2_with fail
                go_at_call 34; refine (HPL.out _).mono ?_; rintro e w' ⟨rfl, z1, rfl⟩
                cases hz : nearB P 1048576
                · have hf := map_near_false (f := stepT ⟨mark, tx, ty, ax, ay, az, sx, sy, sz, count⟩ N) hlt2 (by rw [HTI.out, HST.out]; exact hz)
                  rw [← HN.out] at hf
                  obtain rfl : false = q := ks_false (f := stepT ⟨mark, tx, ty, ax, ay, az, sx, sy, sz, count⟩) HQ3.out hlt hf
                  clear hf
                  have HZ := Lib.hid hz
                  clear hz
                  go_wp2_with fail
                  go_at_call 32; refine (isPlace_v _ _ _ HZ.out (by decide) _).mono ?_; rintro e w' ⟨rfl, z3, rfl⟩
                  go_wp2
                  go_ret
                  exact Ret.of (HB3.out.trans ((show Below W3.heap.size W3 _ by (repeat (first | exact grow_refl _ | refine grow_ext _ ?_ | refine grow_alloc _ ?_ | refine grow_drew ?_))).mono HB3.out.size))
                · have HX := Lib.hid (take_near_succ (f := stepT ⟨mark, tx, ty, ax, ay, az, sx, sy, sz, count⟩ N) hlt2 HALL.out (by rw [HTI.out, HST.out]; exact hz))
                  have HZ := Lib.hid hz
                  clear hz
                  go_wp2_with fail
                  go_at_call 32; refine (isPlace_v _ _ _ HZ.out (by decide) _).mono ?_; rintro e w' ⟨rfl, z3, rfl⟩
                  go_wp2
                  go_roundw
                  case rel => exact ⟨i + 1, by omega, by go_num, ext_of (by (repeat (first | exact grow_refl _ | refine grow_ext _ ?_ | refine grow_alloc _ ?_ | refine grow_drew ?_))), HX.out⟩
                  case measure => simp [intOf]; omega
            · obtain rfl : i = T.length := by omega
              go_wp2
              go_roundw
              case rel => exact ⟨k + 1, by omega, by go_num, ext_of (by (repeat (first | exact grow_refl _ | refine grow_ext _ ?_ | refine grow_alloc _ ?_ | refine grow_drew ?_))), fun j hj => by
                rcases Nat.lt_or_ge j k with h | h
                · exact HNO.out j h
                · obtain rfl : j = k := by omega
                  rw [HN.out]
                  have := HALL.out
                  rwa [List.take_length] at this⟩
              case measure => simp [intOf]; omega
        · obtain rfl : k = 2 := by omega
          obtain rfl : true = q := ks_true (f := stepT ⟨mark, tx, ty, ax, ay, az, sx, sy, sz, count⟩) HQ3.out HNO.out
          go_wp2
          go_ret
          exact Ret.of (HB3.out.trans ((show Below W3.heap.size W3 _ by (repeat (first | exact grow_refl _ | refine grow_ext _ ?_ | refine grow_alloc _ ?_ | refine grow_drew ?_))).mono HB3.out.size))

end Go.Proofs.Ytofjopdcbmaijaa
