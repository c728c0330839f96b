/- laid.Moved: runs that are moved. -/
import Derived.Test.YtofjopdcbmaijaaLaidP0
namespace Go.Proofs.Ytofjopdcbmaijaa
open Go.RowKit
set_option maxRecDepth 20000

/-- A block that holds the runs, the first k of them moved. -/
structure MovK (g : Pt) (rs : List Rn) (gO k : Nat) (W : World) : Prop where
  ex : ∃ cur, Blk W gO cur 41 ∧ ∀ j (h : j < rs.length) r, r < 10 → cur[j * 10 + r]? = (rnL (if j < k then movR g rs[j] else rs[j]))[r]?
theorem MovK.cell {g : Pt} {rs : List Rn} {gO k : Nat} {W : World} (h : MovK g rs gO k W) {j : Nat} (hj : j < rs.length) (r : Nat) (hr : r < 10) : W.cell? ⟨gO, j * 10 + r, none⟩ = (rnL (if j < k then movR g rs[j] else rs[j]))[r]? := by
  obtain ⟨cur, hb, hc⟩ := h.ex
  rw [hb.cell, hc j hj r hr]
theorem MovK.frozen {g : Pt} {rs : List Rn} {gO k : Nat} {W : World} (h : MovK g rs gO k W) (i : Nat) : W.frozen? ⟨gO, i, none⟩ = false := by
  obtain ⟨cur, hb, _⟩ := h.ex
  exact hb.frozen i
theorem MovK.below {g : Pt} {rs : List Rn} {gO k : Nat} {W W' : World} (h : MovK g rs gO k W) (hb : Below W.heap.size W W') : MovK g rs gO k W' := by
  obtain ⟨cur, hb', hc⟩ := h.ex
  exact ⟨cur, hb'.below hb, hc⟩
theorem MovK.step {g : Pt} {rs : List Rn} {gO k : Nat} {W : World} (h : MovK g rs gO k W) (hk : k < rs.length) (a b c : Int) (ha : rs[k].ax + g.x = a) (hb : rs[k].ay + g.y = b) (hc : rs[k].az + g.z = c) :
    MovK g rs gO (k + 1) (((W.setCell ⟨gO, k * 10 + 3, none⟩ (.int .i64 a)).setCell ⟨gO, k * 10 + 3 + 1, none⟩ (.int .i64 b)).setCell ⟨gO, k * 10 + 3 + 2, none⟩ (.int .i64 c)) := by
  subst ha hb hc
  obtain ⟨cur, hb, hc⟩ := h.ex
  refine ⟨⟨_, ((hb.set _ _).set _ _).set _ _, fun j hj r hr => ?_⟩⟩
  have hcj := hc j hj r hr
  have hsz : k * 10 + 9 < cur.size := by
    have := hc k hk 9 (by omega)
    rw [if_neg (Nat.lt_irrefl k)] at this
    exact (Array.getElem?_eq_some_iff.1 (this.trans rfl)).1
  simp only [Array.getElem?_setIfInBounds, Array.size_setIfInBounds]
  by_cases hjk : j = k
  · subst hjk
    rw [if_neg (Nat.lt_irrefl j)] at hcj
    rw [if_pos (Nat.lt_succ_self j)]
    have h10 : r = 3 ∨ r = 4 ∨ r = 5 ∨ (r = 0 ∨ r = 1 ∨ r = 2 ∨ r = 6 ∨ r = 7 ∨ r = 8 ∨ r = 9) := by omega
    rcases h10 with rfl | rfl | rfl | h10
    · rw [if_neg (by omega), if_neg (by omega), if_pos rfl, if_pos (by omega)]; rfl
    · rw [if_neg (by omega), if_pos (by omega), if_pos (by omega)]; rfl
    · rw [if_pos (by omega), if_pos (by omega)]; rfl
    · rw [if_neg (by omega), if_neg (by omega), if_neg (by omega), hcj]
      rcases h10 with rfl | rfl | rfl | rfl | rfl | rfl | rfl <;> rfl
  · rw [if_neg (by omega), if_neg (by omega), if_neg (by omega), hcj]
    by_cases h1 : j < k
    · rw [if_pos h1, if_pos (by omega)]
    · rw [if_neg h1, if_neg (by omega)]
theorem MovK.of_own {g : Pt} {rs : List Rn} {gO cap base : Nat} {W : World} (h : W.ownsRow base 41 10 (.slice (some ⟨gO, 0, none⟩) rs.length cap) rs.length (rnsCells rs)) : MovK g rs gO 0 W := by
  rcases h.2 with ⟨e, _⟩ | ⟨g', cap', cur, e, h1, h2, h3, h4, h5, h6⟩
  · cases e
  · cases e
    refine ⟨cur, h2, fun j hj r hr => ?_⟩
    rw [if_neg (Nat.not_lt_zero j), ← rnsCells_get rs j hj r hr, ← h6, ← Array.getElem?_toList, List.getElem?_take, if_pos (by omega)]
theorem MovK.runs {g : Pt} {rs : List Rn} {gO cap : Nat} {W : World} (h : MovK g rs gO rs.length W) (hm : ∀ r ∈ rs, r.mark.size ≤ 9223372036854775807) (h1 : rs.length ≤ cap) (h2 : cap ≤ 9223372036854775807) : Runs W (.slice (some ⟨gO, 0, none⟩) rs.length cap) (rs.map (movR g)) := by
  refine ⟨some ⟨gO, 0, none⟩, cap, by rw [List.length_map], by rw [List.length_map]; exact h1, h2, fun i hi => ?_⟩
  rw [List.length_map] at hi
  rw [List.getElem_map]
  refine ⟨show rs[i].mark.size ≤ 9223372036854775807 from hm _ (List.getElem_mem hi), gO, 0, rfl, RnAt.of_cells fun r hr => ?_⟩
  rw [Nat.zero_add, h.cell hi r hr, if_pos hi]
theorem runs_nil (w : World) (a : Option Addr) (cap : Nat) (h : cap ≤ 9223372036854775807) : Runs w (.slice a 0 cap) [] := ⟨a, cap, rfl, Nat.zero_le _, h, fun i hi => absurd hi (Nat.not_lt_zero _)⟩

/-- What Moved answers: an error, or the moved runs. -/
def RetMov (w : World) (g : Pt) (rs : List Rn) (e : Ending) (W : World) : Prop :=
  ∃ a n c err, e = .returned (.tuple #[.slice a n c, .int .i64 err]) ∧ (err = 0 → NearP g 2097152 ∧ Runs W (.slice a n c) (rs.map (movR g))) ∧ ∃ x, W = ext w x
/-- What holds before each round. -/
structure MovL (w : World) (g : Pt) (rs : List Rn) (gO k : Nat) (W : World) : Prop where
  below : Below w.heap.size w W
  by_ : Blk W w.heap.size #[.int .i64 g.x, .int .i64 g.y, .int .i64 g.z] 39
  row : MovK g rs gO k W

set_option maxRecDepth 100000 in
set_option maxHeartbeats 4000000 in
theorem moved_c (g : Pt) (rs : List Rn) (u : Value) (hat : ∀ r ∈ rs, NearP ⟨r.ax, r.ay, r.az⟩ 1048576) (hlen : rs.length ≤ 60) (w : World) (hr : Runs w u rs) :
    Calls Try.prog 19 #[u, (.agg #[.int .i64 g.x, .int .i64 g.y, .int .i64 g.z])] w (RetMov w g rs) := by
  have HR := Lib.hid hr
  have HAT := Lib.hid hat
  obtain ⟨a, cap, rfl, h2, h3, h4⟩ := hr.shape
  have H4 := Lib.hid h4
  have d0 : decide ((60 : Int) < (rs.length : Int)) = false := by simp; omega
  clear hr h4 hat
  cases hn : nearB g 2097152
  · have HN := Lib.hid hn
    clear hn
    go_enter Try.func19, Try.ntmps19
    go_wp2_with fail
    go_at_call 32; refine (isPlace_v g 2097152 false HN.out (by omega) _).mono ?_; rintro e w' ⟨rfl, x1, rfl⟩
    go_wp2
    go_ret2
    exact ⟨none, 0, 0, 2, rfl, fun h => absurd h (by decide), ext_of (by (repeat (first | exact grow_refl _ | refine grow_ext _ ?_ | refine grow_alloc _ ?_ | refine grow_drew ?_)))⟩
  · have HN := Lib.hid hn
    have hng := near_iff.1 hn
    clear hn
    by_cases h0 : rs = []
    · subst h0
      go_enter Try.func19, Try.ntmps19
      go_wp2_with fail
      go_at_call 32; refine (isPlace_v g 2097152 true HN.out (by omega) _).mono ?_; rintro e w' ⟨rfl, x1, rfl⟩
      go_wp2_with fail
      go_at_call 33; refine (cloneRn_c [] _ _ (HR.out.below (by (repeat (first | exact grow_refl _ | refine grow_ext _ ?_ | refine grow_alloc _ ?_ | refine grow_drew ?_)))) (by decide)).mono ?_; rintro e w' ⟨v2, rfl, hown, x2, rfl⟩
      obtain ⟨a2, c2, rfl, k1, k2, -⟩ := own_shape hown
      clear hown
      have hk2 : c2 ≤ 9223372036854775807 := k2
      go_wp2_with fail
      refine wp_loop_rounds 1 ?_
      rw [rounds_succ]
      go_wp2
      go_ret2
      exact ⟨a2, 0, c2, 0, rfl, fun _ => ⟨near_iff.1 HN.out, runs_nil _ _ _ hk2⟩, ext_of (by (repeat (first | exact grow_refl _ | refine grow_ext _ ?_ | refine grow_alloc _ ?_ | refine grow_drew ?_)))⟩
    · have hpos : 0 < rs.length := List.length_pos_iff.2 h0
      clear h0
      go_enter Try.func19, Try.ntmps19
      go_wp2_with fail
      go_at_call 32; refine (isPlace_v g 2097152 true HN.out (by omega) _).mono ?_; rintro e w' ⟨rfl, x1, rfl⟩
      go_wp2_with fail
      go_at_call 33; refine (cloneRn_c rs _ _ (HR.out.below (by (repeat (first | exact grow_refl _ | refine grow_ext _ ?_ | refine grow_alloc _ ?_ | refine grow_drew ?_)))) (by omega)).mono ?_; rintro e w' ⟨v2, rfl, hown, x2, rfl⟩
      obtain ⟨a2, c2, rfl, k1, k2, k3⟩ := own_shape hown
      obtain ⟨gO, rfl, hgO, -⟩ := k3 hpos
      have hk2 : c2 ≤ 9223372036854775807 := k2
      have HOW := Lib.hid (MovK.of_own (g := g) hown)
      have HGO := Lib.hid (show w.heap.size ≤ gO ∧ w.heap.size ≠ gO by simp only [World.size_alloc, size_ext] at hgO; omega)
      clear hown k2 k3 hgO
      go_wp2_with fail
      refine world_mask (fun W => MovL w g rs gO 0 W) _ ⟨by (repeat (first | exact grow_refl _ | refine grow_ext _ ?_ | refine grow_alloc _ ?_ | refine grow_drew ?_)), Blk.ext (Blk.ext (Blk.new' rfl _ _) _) _, HOW.out⟩ ?_
      clear HOW
      intro W1 hj
      have HJ0 := Lib.hid hj
      clear hj
      go_loopw [19] (fun i wr => ∃ k : Nat, k ≤ rs.length ∧ i = .int .i64 k ∧ MovL w g rs gO k wr) (fun i _ => rs.length - (intOf i).toNat)
      case atStart => exact ⟨0, by omega, rfl, HJ0.out⟩
      case round =>
        obtain ⟨wa, rfl⟩ : ∃ W : World, W = wr := ⟨_, rfl⟩
        obtain ⟨k, hk, rfl, hJ⟩ := hrel
        clear HJ0
        have HJ := Lib.hid hJ
        clear hJ
        by_cases hlt : k < rs.length
        · have i1 : (0 : Int) ≤ (k : Int) := by omega
          have i2 : (k : Int) < (rs.length : Int) := by omega
          obtain ⟨a9, cap9, e9, _, _, h9⟩ := HR.out.below HJ.out.below
          cases e9
          obtain ⟨_, b0, off, ea, hbr⟩ := h9 k hlt
          subst ea
          have hna := HAT.out _ (List.getElem_mem hlt)
          have hmv := HJ.out.row.step hlt
          have hR := fun q (hq : q < 10) => HJ.out.row.cell hlt q hq
          rw [if_neg (Nat.lt_irrefl k)] at hR
          obtain ⟨r, hr⟩ : ∃ r, rs[k] = r := ⟨_, rfl⟩
          rw [hr] at hbr hna hmv
          simp only [hr] at hR
          have HMV := Lib.hid hmv
          obtain ⟨c0, c1, c2', c3, c4, c5, c6, c7, c8, c9⟩ := hbr
          have o3 : wa.cell? ⟨gO, k * 10 + 3, none⟩ = some (.int .i64 r.ax) := hR 3 (by omega)
          have o4 : wa.cell? ⟨gO, k * 10 + 3 + 1, none⟩ = some (.int .i64 r.ay) := hR 4 (by omega)
          have o5 : wa.cell? ⟨gO, k * 10 + 3 + 2, none⟩ = some (.int .i64 r.az) := hR 5 (by omega)
          have f3 := HJ.out.row.frozen (k * 10 + 3)
          have f4 := HJ.out.row.frozen (k * 10 + 3 + 1)
          have f5 := HJ.out.row.frozen (k * 10 + 3 + 2)
          have b0' : wa.cell? ⟨w.heap.size, 0, none⟩ = some (.int .i64 g.x) := HJ.out.by_.cell 0
          have b1' : wa.cell? ⟨w.heap.size, 1, none⟩ = some (.int .i64 g.y) := HJ.out.by_.cell 1
          have b2' : wa.cell? ⟨w.heap.size, 2, none⟩ = some (.int .i64 g.z) := HJ.out.by_.cell 2
          have HPL := Lib.hid (fun w => isPlace_v ⟨r.ax, r.ay, r.az⟩ 1048576 true (near_iff.2 hna) (by omega) w)
          obtain ⟨n1, n2, n3⟩ := hna
          obtain ⟨m1, m2, m3⟩ := hng
          have HPP := Lib.hid (fun w => plus_c ⟨r.ax, r.ay, r.az⟩ g 1 (by unfold NearP; simp only at *; omega) ⟨m1, m2, m3⟩ (by omega) w)
          obtain ⟨P, hP⟩ : ∃ P, plusP ⟨r.ax, r.ay, r.az⟩ g 1 = P := ⟨_, rfl⟩
          rw [hP] at HPP
          have hPx : r.ax + g.x = P.x := by rw [← hP]; simp [plusP]
          have hPy : r.ay + g.y = P.y := by rw [← hP]; simp [plusP]
          have hPz : r.az + g.z = P.z := by rw [← hP]; simp [plusP]
          have HM2 := Lib.hid (hmv P.x P.y P.z hPx hPy hPz)
          have HPX := Lib.hid (show rs[k].ax + g.x = P.x ∧ rs[k].ay + g.y = P.y ∧ rs[k].az + g.z = P.z by rw [hr]; exact ⟨hPx, hPy, hPz⟩)
          clear hmv HMV hPx hPy hPz hP hR hr n1 n2 n3 m1 m2 m3 h9
          go_wp2_with fail
          go_at_call 32; refine (HPL.out _).mono ?_; rintro e w' ⟨rfl, y1, rfl⟩
          go_wp2_with fail
          go_at_call 34; refine (HPP.out _).mono ?_; rintro e w' ⟨rfl, y2, rfl⟩
          go_upto_region 12 with fail
          refine world_mask (fun W => MovL w g rs gO (k + 1) W) _ ⟨?_, ?_, ?_⟩ ?_
          · exact grow_ext _ (grow_ext _ (grow_alloc _ (((HJ.out.below.setCell (p := ⟨gO, k * 10 + 3, none⟩) HGO.out.1 _).setCell (p := ⟨gO, k * 10 + 3 + 1, none⟩) HGO.out.1 _).setCell (p := ⟨gO, k * 10 + 3 + 2, none⟩) HGO.out.1 _)))
          · exact (((HJ.out.by_.other3 HGO.out.2 _ _ _ _ _ _).alloc _).ext _).ext _
          · exact HM2.out.below (by (repeat (first | exact grow_refl _ | refine grow_ext _ ?_ | refine grow_alloc _ ?_ | refine grow_drew ?_)))
          clear c0 c1 c2' c3 c4 c5 c6 c7 c8 c9 o3 o4 o5 f3 f4 f5 b0' b1' b2' HM2
          intro W2 hJ2
          have HJ2 := Lib.hid hJ2
          have hR := fun q (hq : q < 10) => hJ2.row.cell hlt q hq
          rw [if_pos (Nat.lt_succ_self k)] at hR
          have hPx : rs[k].ax + g.x = P.x := HPX.out.1
          have hPy : rs[k].ay + g.y = P.y := HPX.out.2.1
          have hPz : rs[k].az + g.z = P.z := HPX.out.2.2
          have o3 : W2.cell? ⟨gO, k * 10 + 3, none⟩ = some (.int .i64 P.x) := by rw [← hPx]; exact hR 3 (by omega)
          have o4 : W2.cell? ⟨gO, k * 10 + 3 + 1, none⟩ = some (.int .i64 P.y) := by rw [← hPy]; exact hR 4 (by omega)
          have o5 : W2.cell? ⟨gO, k * 10 + 3 + 2, none⟩ = some (.int .i64 P.z) := by rw [← hPz]; exact hR 5 (by omega)
          clear hR hJ2 HJ hPx hPy hPz
          obtain ⟨q, hq⟩ : ∃ q, nearB P 1048576 = q := ⟨_, rfl⟩
          have HQ := Lib.hid (fun w => isPlace_v P 1048576 q hq (by omega) w)
          clear hq
          cases q
          · go_wp2_with fail
            go_at_call 32; refine (HQ.out _).mono ?_; rintro e w' ⟨rfl, y3, rfl⟩
            go_wp2
            go_ret2
            exact ⟨none, 0, 0, 2, rfl, fun h => absurd h (by decide), ext_of (grow_ext _ HJ2.out.below)⟩
          · go_wp2_with fail
            go_at_call 32; refine (HQ.out _).mono ?_; rintro e w' ⟨rfl, y3, rfl⟩
            go_wp2
            go_roundw
            case rel => exact ⟨k + 1, by omega, by go_num, ⟨grow_ext _ HJ2.out.below, HJ2.out.by_.ext _, HJ2.out.row.below (by (repeat (first | exact grow_refl _ | refine grow_ext _ ?_ | refine grow_alloc _ ?_ | refine grow_drew ?_)))⟩⟩
            case measure => simp [intOf]; omega
        · obtain rfl : k = rs.length := by omega
          go_wp2
          go_ret2
          exact ⟨some ⟨gO, 0, none⟩, _, _, 0, rfl, fun _ => ⟨near_iff.1 HN.out, HJ.out.row.runs HR.out.marks k1 hk2⟩, ext_of HJ.out.below⟩

end Go.Proofs.Ytofjopdcbmaijaa
