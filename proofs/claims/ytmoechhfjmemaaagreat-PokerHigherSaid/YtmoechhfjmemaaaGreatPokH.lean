/- The reference's column and free tips: stirrupref22.Top, Column, Free; the laws' own functions. -/
import Derived.Test.YtmoechhfjmemaaaGreatPokG
import Derived.Test.YtmoechhfjmemaaaGreatRefMK
namespace Go.Proofs.YtmoechhfjmemaaaGreat
open Go.RowKit
set_option maxRecDepth 20000

theorem run_box_hi (a b c d e f : Int) (w : World) : (Instr.field 34 (.agg #[.int .i64 a, .int .i64 b, .int .i64 c, .int .i64 d, .int .i64 e, .int .i64 f]) 1).run Tryz.prog w = .ok (.agg #[.int .i64 d, .int .i64 e, .int .i64 f]) w := by kernel_rfl
theorem run_pt_z (a b c : Int) (w : World) : (Instr.field 30 (.agg #[.int .i64 a, .int .i64 b, .int .i64 c]) 2).run Tryz.prog w = .ok (.int .i64 c) w := by kernel_rfl
theorem run_bar_size22 (mark : ByteArray) (size count code : Int) (ad : Option Addr) (n cd : Nat) (w : World) :
    (Instr.field 98 (.agg #[.string mark, .int .i64 size, .int .i64 count, .int .i64 code, .slice ad n cd]) 1).run Tryz.prog w = .ok (.int .i64 size) w := by kernel_rfl
attribute [local go_sem] run_box_hi run_pt_z run_bar_size22

theorem rTop_c (q : Mb) (h0 : 0 < q.l.length) (w : World) (hq : MbAt w q) : Calls Tryz.prog 17 #[(.agg #[.string q.name, q.u, q.t, .int .i64 q.cover, .int .i64 q.agg, .int .i64 q.poker])] w (Ret w (.int .i64 (topI q))) := by
  have HQ := Lib.hid hq
  have HH := Lib.hid (fun w hl => refSolHull_c q.l q.u q.t h0 w hl)
  have HE := Lib.hid (show topI q = (hullX q.l).hz from rfl)
  generalize hullX q.l = H at *
  clear hq h0
  go_enter Tryz.func17, Tryz.ntmps17
  go_wp2_with fail
  go_at_call 58; refine (HH.out _ (HQ.out.boxes.below (by (repeat (first | exact grow_refl _ | refine grow_ext _ ?_ | refine grow_alloc _ ?_ | refine grow_drew ?_))))).mono ?_; rintro e w' ⟨rfl, x1, rfl⟩
  go_wp2
  go_ret
  rw [HE.out]
  exact Ret.of (by (repeat (first | exact grow_refl _ | refine grow_ext _ ?_ | refine grow_alloc _ ?_ | refine grow_drew ?_)))

theorem solid_some {l m : List Bx} (h : solidB l m = true) : 0 < l.length := (solid_iff.1 h).1.1
theorem solid_few {l m : List Bx} (h : solidB l m = true) : l.length ≤ 1000 := by have := (solid_iff.1 h).1.2; omega
set_option maxHeartbeats 2000000 in
theorem rColumn_c (q : Mb) (p : Pt) (hk : TipOk q p) (w : World) (hq : MbAt w q) : Calls Tryz.prog 18 #[(.agg #[.string q.name, q.u, q.t, .int .i64 q.cover, .int .i64 q.agg, .int .i64 q.poker]), (.agg #[.int .i64 p.x, .int .i64 p.y, .int .i64 p.z])] w (Ret w (.agg #[.int .i64 (colX q p).lx, .int .i64 (colX q p).ly, .int .i64 (colX q p).lz, .int .i64 (colX q p).hx, .int .i64 (colX q p).hy, .int .i64 (colX q p).hz])) := by
  obtain ⟨hs, k1, k2, hx, hy⟩ := hk
  have HQ := Lib.hid hq
  have HT := Lib.hid (fun w hq => rTop_c q (solid_some hs) w hq)
  have e1 : Int.tdiv (q.poker + 1) 2 = (q.poker + 1) / 2 := Int.tdiv_eq_ediv_of_nonneg (by omega)
  have HE := Lib.hid (show colX q p = ⟨p.x - (q.poker + 1) / 2, p.y - (q.poker + 1) / 2, p.z, p.x + (q.poker + 1) / 2, p.y + (q.poker + 1) / 2, topI q⟩ from rfl)
  obtain ⟨h, hh⟩ : ∃ h, (q.poker + 1) / 2 = h := ⟨_, rfl⟩
  have h0 : 0 ≤ h ∧ h ≤ 101 := by omega
  rw [hh] at e1 HE
  generalize colX q p = C at *
  generalize topI q = T at *
  clear hq hs hh
  go_enter Tryz.func18, Tryz.ntmps18
  go_wp2_with fail
  refine wp_region_tail 23 (by kernel_rfl) (by kernel_rfl) ?_; simp only [List.take_succ_cons, List.take_zero, List.drop_succ_cons, List.drop_zero]
  repeat (go_big_quiet_step ((go_at_call 17; exact Calls.quiet_ext (HT.out _ (HQ.out.below (by (repeat (first | exact grow_refl _ | refine grow_ext _ ?_ | refine grow_alloc _ ?_ | refine grow_drew ?_))))))))
  refine wpQuiet_nil ?_; rintro _ ⟨xq, rfl⟩
  go_wp2
  rw [HE.out]
  refine bodyPost_ret (v := .agg #[.int .i64 (p.x - h), .int .i64 (p.y - h), .int .i64 p.z, .int .i64 (p.x + h), .int .i64 (p.y + h), .int .i64 T]) (by simp [results, Tryz.results18, go_sem]) rfl ?_
  exact Ret.of (by (repeat (first | exact grow_refl _ | refine grow_ext _ ?_ | refine grow_alloc _ ?_ | refine grow_drew ?_)))

theorem gapI_comm (a b : Bx) : gapI a b = gapI b a := by
  unfold gapI alongI
  rw [Int.max_comm (b.lo 0 - a.hi 0), Int.max_comm (b.lo 1 - a.hi 1), Int.max_comm (b.lo 2 - a.hi 2)]
theorem clear_append (C : Bx) (A B : List Rc) : clearB C (A ++ B) = (clearB C A && clearB C B) := by unfold clearB; rw [List.all_append]
theorem clear_upto {C : Bx} {l : List Br} {rs : List Rn} {n m : Nat} (h : n ≤ m) (hc : clearB C (rodsTo l rs m) = true) : clearB C (rodsTo l rs n) = true := by
  induction m with
  | zero => obtain rfl : n = 0 := by omega
            exact hc
  | succ m ih =>
    rw [rodsTo_succ, clear_append, Bool.and_eq_true] at hc
    by_cases hn : n = m + 1
    · subst hn; rw [rodsTo_succ, clear_append, hc.1, hc.2]; rfl
    · exact ih (by omega) hc.1
theorem clear_not {C : Bx} {l : List Br} {rs : List Rn} {n m : Nat} (h : n < m) (hc : clearB C (rodsAt l rs n) = false) : clearB C (rodsTo l rs m) = false := by
  cases hm : clearB C (rodsTo l rs m)
  · rfl
  · have := clear_upto (n := n + 1) h hm
    rw [rodsTo_succ, clear_append, hc, Bool.and_false] at this
    exact this.symm
theorem clear_take {C : Bx} {H : Int} {L : List Bx} {k : Nat} (hk : k < L.length) : clearB C ((L.take (k + 1)).map fun b => ⟨b, H⟩) = (clearB C ((L.take k).map fun b => ⟨b, H⟩) && decide (H ≤ gapI L[k] C)) := by
  rw [List.take_succ_eq_append_getElem hk, List.map_append, clear_append]
  unfold clearB; simp
theorem clear_one {C : Bx} {H : Int} {L : List Bx} {k : Nat} (hk : k < L.length) (h : ¬ H ≤ gapI L[k] C) : clearB C (L.map fun b => ⟨b, H⟩) = false := by
  unfold clearB
  rw [List.all_eq_false]
  exact ⟨⟨L[k], H⟩, List.mem_map.2 ⟨_, List.getElem_mem hk, rfl⟩, by simpa using h⟩

/-- The bar of a laid bar: its mark, and its dimensions as a slice. -/
theorem bar_form22 {l : List Br} {rs : List Rn} {v : Value} {w : World} (hv : laidB l rs = true) (hl : Bars w v l) {i : Int} (h0 : 0 ≤ i) (hi : i < countS rs) :
    ∃ mark count code ad n cd dims, barOf l (markI rs i) = ⟨mark, sizeI l rs i, count, code, dims, .slice ad n cd⟩ := by
  obtain ⟨qq, hqq, eb⟩ := List.getElem_of_mem (bar_mem (mark_of hv h0 hi).2.1)
  obtain ⟨_, _, -, -, -, g4⟩ := hl.shape
  obtain ⟨ad, cd, ev, -, -, -⟩ := (g4 qq hqq).1.dims
  rw [eb] at ev
  have hsz : (barOf l (markI rs i)).size = sizeI l rs i := rfl
  generalize barOf l (markI rs i) = b at *
  obtain ⟨mark, size, count, code, dims, dv⟩ := b
  simp only at *
  subst hsz ev
  exact ⟨_, _, _, _, _, _, _, rfl⟩

set_option maxRecDepth 100000 in
set_option maxHeartbeats 8000000 in
theorem rFree_v (q : Mb) (l : List Br) (rs : List Rn) (v u : Value) (p : Pt) (r : Bool) (h : freeR q (rodsI l rs) p = r) (hk : TipOk q p) (hv : laidB l rs = true) (w : World) (hq : MbAt w q) (hl : Bars w v l) (hr : Runs w u rs) :
    Calls Tryz.prog 20 #[(.agg #[.string q.name, q.u, q.t, .int .i64 q.cover, .int .i64 q.agg, .int .i64 q.poker]), v, u, (.agg #[.int .i64 p.x, .int .i64 p.y, .int .i64 p.z])] w (Ret w (.bool r)) := by
  have HQ := Lib.hid hq
  have HL := Lib.hid hl
  have HR := Lib.hid hr
  have HCO := Lib.hid (fun w hq => rColumn_c q p hk w hq)
  have hs := hk.solid
  unfold freeR at h
  obtain ⟨C, hC⟩ : ∃ C, colX q p = C := ⟨_, rfl⟩
  rw [hC] at HCO h
  clear hq hl hr hk hC
  cases hc : validB C
  · rw [hc, Bool.false_and] at h
    subst h
    have HC := Lib.hid hc
    clear hc hs hv
    go_enter Tryz.func20, Tryz.ntmps20
    go_wp2_with fail
    go_at_call 18; refine (HCO.out _ (HQ.out.below (by (repeat (first | exact grow_refl _ | refine grow_ext _ ?_ | refine grow_alloc _ ?_ | refine grow_drew ?_))))).mono ?_; rintro e w' ⟨rfl, x1, rfl⟩
    go_wp2_with fail
    go_at_call 57; refine (refValid22_v C _ HC.out _).mono ?_; rintro e w' ⟨rfl, x2, rfl⟩
    go_wp2
    go_ret
    exact Ret.of (by (repeat (first | exact grow_refl _ | refine grow_ext _ ?_ | refine grow_alloc _ ?_ | refine grow_drew ?_)))
  rw [hc, Bool.true_and] at h
  have HC := Lib.hid hc
  have HS := Lib.hid (fun (b : Bool) (e : containsS q.l q.m C = b) w hl hm => refContains17_v q.l q.m q.u q.t C b e (solid_few hs) (Ord.of_valid hc) w hl hm)
  cases hi : containsS q.l q.m C
  · rw [hi, Bool.false_and] at h
    subst h
    have HI := Lib.hid (HS.out _ hi)
    clear hc hs hi hv HS
    go_enter Tryz.func20, Tryz.ntmps20
    go_wp2_with fail
    go_at_call 18; refine (HCO.out _ (HQ.out.below (by (repeat (first | exact grow_refl _ | refine grow_ext _ ?_ | refine grow_alloc _ ?_ | refine grow_drew ?_))))).mono ?_; rintro e w' ⟨rfl, x1, rfl⟩
    go_wp2_with fail
    go_at_call 57; refine (refValid22_v C _ HC.out _).mono ?_; rintro e w' ⟨rfl, x2, rfl⟩
    go_wp2_with fail
    go_at_call 60; refine (HI.out _ (HQ.out.boxes.below (by (repeat (first | exact grow_refl _ | refine grow_ext _ ?_ | refine grow_alloc _ ?_ | refine grow_drew ?_)))) (HQ.out.holes.below (by (repeat (first | exact grow_refl _ | refine grow_ext _ ?_ | refine grow_alloc _ ?_ | refine grow_drew ?_))))).mono ?_; rintro e w' ⟨rfl, x3, rfl⟩
    go_wp2
    go_ret
    exact Ret.of (by (repeat (first | exact grow_refl _ | refine grow_ext _ ?_ | refine grow_alloc _ ?_ | refine grow_drew ?_)))
  rw [hi, Bool.true_and] at h
  have HI := Lib.hid (HS.out _ hi)
  have HV := Lib.hid hv
  have HH := Lib.hid (show clearB C (rodsTo l rs (countS rs).toNat) = r from h)
  have HCO2 := Lib.hid (fun w hr => refCount16_c rs u (laidB_iff.1 hv).2.1 (laid_counts hv) w hr)
  have hm := laid_most hv
  have h0 : 0 ≤ countS rs := countS_nonneg (laidB_iff.1 hv).2.2.1
  have HBF := Lib.hid (fun (k : Nat) (hk : (k : Int) < countS rs) => bar_form22 hv HL.out (i := (k : Int)) (by omega) hk)
  have HBA := Lib.hid (fun (k : Nat) (hk : (k : Int) < countS rs) w hl hr => refBar_c l rs v u k hv (by omega) hk w hl hr)
  have HLG := Lib.hid (fun (k : Nat) (hk : (k : Int) < countS rs) w hl hr => refLegs_c l rs v u k hv (by omega) hk w hl hr)
  have HLV := Lib.hid (fun (k : Nat) (hk : (k : Int) < countS rs) => legsI_valid hv (i := (k : Int)) (by omega) hk)
  have HSZ := Lib.hid (fun (k : Nat) (hk : (k : Int) < countS rs) => size_of hv (i := (k : Int)) (by omega) hk)
  have HNO := Lib.hid (fun (k : Nat) (hk : (k : Int) < countS rs) (hf : clearB C (rodsAt l rs k) = false) => clear_not (C := C) (l := l) (rs := rs) (show k < (countS rs).toNat by omega) hf)
  have HST := Lib.hid (fun k => rodsTo_succ l rs k)
  generalize countS rs = N at *
  clear hc hs hi hv HS h
  go_enter Tryz.func20, Tryz.ntmps20
  go_wp2_with fail
  go_at_call 18; refine (HCO.out _ (HQ.out.below (by (repeat (first | exact grow_refl _ | refine grow_ext _ ?_ | refine grow_alloc _ ?_ | refine grow_drew ?_))))).mono ?_; rintro e w' ⟨rfl, x1, rfl⟩
  go_wp2_with fail
  go_at_call 57; refine (refValid22_v C _ HC.out _).mono ?_; rintro e w' ⟨rfl, x2, rfl⟩
  go_wp2_with fail
  go_at_call 60; refine (HI.out _ (HQ.out.boxes.below (by (repeat (first | exact grow_refl _ | refine grow_ext _ ?_ | refine grow_alloc _ ?_ | refine grow_drew ?_)))) (HQ.out.holes.below (by (repeat (first | exact grow_refl _ | refine grow_ext _ ?_ | refine grow_alloc _ ?_ | refine grow_drew ?_))))).mono ?_; rintro e w' ⟨rfl, x3, rfl⟩
  go_wp2_with fail
  refine world_mask (fun W => (∃ z, W = ext w z) ∧ BoxAt W (w.heap.size + 1 + 1 + x1.heap.size) 0 C) _ ⟨ext_of (by (repeat (first | exact grow_refl _ | refine grow_ext _ ?_ | refine grow_alloc _ ?_ | refine grow_drew ?_))), by simp [BoxAt, go_sem]⟩ ?_
  rintro W1 ⟨hbe, hb1⟩
  have HBE := Lib.hid (show Below w.heap.size w W1 by obtain ⟨z, rfl⟩ := hbe; exact below_ext _ _)
  have HB1 := Lib.hid hb1
  clear hbe hb1
  go_loopw [10] (fun i wr => ∃ k : Nat, (k : Int) ≤ N ∧ i = .int .i64 k ∧ clearB C (rodsTo l rs k) = true ∧ (∃ z, wr = ext W1 z)) (fun i _ => N.toNat - (intOf i).toNat)
  case atStart => exact ⟨0, by omega, rfl, rfl, ext_of (Below.refl _ _)⟩
  case round =>
    obtain ⟨k, hk, rfl, hcl, ⟨z, rfl⟩⟩ := hrel
    have HCL := Lib.hid hcl
    have HBZ := Lib.hid (show Below w.heap.size w (ext W1 z) from HBE.out.trans ((below_ext W1 z).mono HBE.out.size))
    clear hcl
    by_cases hlt : (k : Int) < N
    · have q1 : (0 : Int) ≤ (k : Int) := by omega
      have HBB := Lib.hid (HBA.out k hlt)
      have HLK := Lib.hid (HLG.out k hlt)
      obtain ⟨mark, count, code, ad, dn, cd, dims, hbf⟩ := HBF.out k hlt
      rw [hbf] at HBB
      simp only at HBB
      have hsz := size_iff.1 (HSZ.out k hlt)
      have HNK := Lib.hid (HNO.out k hlt)
      have HLO := Lib.hid (HLV.out k hlt)
      have HSK := Lib.hid (HST.out k)
      have hra : rodsAt l rs k = (legsI l rs k).map fun b => ⟨b, halfI (sizeI l rs k)⟩ := rfl
      rw [hra] at HNK HSK
      have hd : 0 ≤ sizeI l rs k ∧ sizeI l rs k ≤ 1000000 := by omega
      have HRD := Lib.hid (fun w => refRound21_c (sizeI l rs k) hd w)
      have hll : (legsI l rs k).length ≤ 6 := by
        have h2 := pathI_len l rs k
        have h3 : (legsI l rs k).length = (pathI l rs k).length - 1 := legsP_len _
        omega
      generalize legsI l rs k = LG at *
      generalize halfI (sizeI l rs k) = H at *
      generalize sizeI l rs k = SZ at *
      clear hbf hsz hra
      go_wp2_with fail
      go_at_call 61; refine (HCO2.out _ (HR.out.below HBZ.out)).mono ?_; rintro e w' ⟨rfl, y1, rfl⟩
      go_wp2_with fail
      go_at_call 63; refine (HBB.out _ ((HL.out.below HBZ.out).below (by (repeat (first | exact grow_refl _ | refine grow_ext _ ?_ | refine grow_alloc _ ?_ | refine grow_drew ?_)))) ((HR.out.below HBZ.out).below (by (repeat (first | exact grow_refl _ | refine grow_ext _ ?_ | refine grow_alloc _ ?_ | refine grow_drew ?_))))).mono ?_; rintro e w' ⟨rfl, y2, rfl⟩
      go_wp2_with fail
      go_at_call 62; refine (HRD.out _).mono ?_; rintro e w' ⟨rfl, y3, rfl⟩
      go_wp2_with fail
      go_at_call 64; refine (HLK.out _ ((HL.out.below HBZ.out).below (by (repeat (first | exact grow_refl _ | refine grow_ext _ ?_ | refine grow_alloc _ ?_ | refine grow_drew ?_)))) ((HR.out.below HBZ.out).below (by (repeat (first | exact grow_refl _ | refine grow_ext _ ?_ | refine grow_alloc _ ?_ | refine grow_drew ?_))))).mono ?_; rintro e w' ⟨v2, rfl, hown, y4, rfl⟩
      have HBX := Lib.hid (Boxes.of_own hown)
      obtain ⟨a2, c2, rfl, k2, m2, -⟩ := own_shape hown
      have n2 : c2 ≤ 9223372036854775807 := m2
      clear hown
      go_wp2_with fail
      refine world_mask (fun W => (∃ z, W = ext W1 z) ∧ Boxes W (.slice a2 LG.length c2) LG) _ ⟨ext_of (by (repeat (first | exact grow_refl _ | refine grow_ext _ ?_ | refine grow_alloc _ ?_ | refine grow_drew ?_))), HBX.out⟩ ?_
      clear HBX
      rintro W2 ⟨hz2, hb2⟩
      have HZ2 := Lib.hid hz2
      have HB2 := Lib.hid hb2
      clear hz2 hb2
      go_loopw [13] (fun i wr => ∃ j : Nat, j ≤ LG.length ∧ i = .int .i64 j ∧ clearB C ((LG.take j).map fun b => (⟨b, H⟩ : Rc)) = true ∧ (∃ z, wr = ext W2 z)) (fun i _ => LG.length - (intOf i).toNat)
      case atStart => exact ⟨0, by omega, rfl, rfl, ext_of (Below.refl _ _)⟩
      case round =>
        obtain ⟨j, hj, rfl, hcj, ⟨z3, rfl⟩⟩ := hrel
        have HCJ := Lib.hid hcj
        have HZ3 := Lib.hid (show ∃ z, ext W2 z3 = ext W1 z by obtain ⟨z, e⟩ := HZ2.out; rw [e, ext_ext]; exact ⟨_, rfl⟩)
        clear hcj
        by_cases hltj : j < LG.length
        · have q5 : (0 : Int) ≤ (j : Int) := by omega
          have q6 : (j : Int) < (LG.length : Int) := by omega
          obtain ⟨a', c', e', -, -, h5⟩ := HB2.out
          cases e'
          obtain ⟨b0, o0, rfl, hbx⟩ := h5 j hltj
          have HTK := Lib.hid (clear_take (C := C) (H := H) hltj)
          have HON := Lib.hid (fun h => clear_one (C := C) (H := H) hltj h)
          have hlv := HLO.out _ (List.getElem_mem hltj)
          obtain ⟨L, hL⟩ : ∃ L, LG[j] = L := ⟨_, rfl⟩
          rw [hL] at hbx HTK HON hlv
          have HG := Lib.hid (fun w => refGap_c C L (Bd.of_valid HC.out) (Bd.of_valid hlv) w)
          rw [gapI_comm] at HG
          obtain ⟨c0, c1, c2', c3, c4, c5⟩ := hbx.ext z3
          have hbc : BoxAt (ext W2 z3) (w.heap.size + 1 + 1 + x1.heap.size) 0 C := by obtain ⟨zz, e⟩ := HZ3.out; rw [e]; exact HB1.out.ext zz
          obtain ⟨d0, d1, d2, d3, d4, d5⟩ := hbc
          simp only [Nat.zero_add] at d1 d2 d3 d4 d5
          generalize gapI L C = G at *
          clear h5 hL hbx hlv
          by_cases hg : H ≤ G
          · have dg : decide (G < H) = false := by simp; omega
            rw [decide_eq_true hg, Bool.and_true] at HTK
            clear hg
            go_wp2_with fail
            refine wp_region_grows (by kernel_rfl) (by kernel_rfl) ?_
            repeat (go_big_quiet_step ((go_at_call 65; exact Calls.quiet_ext (HG.out _))))
            refine wpQuiet_nil ?_; rintro _ ⟨xq, rfl⟩
            clear c0 c1 c2' c3 c4 c5 d0 d1 d2 d3 d4 d5
            go_wp2
            go_roundw
            case rel => exact ⟨j + 1, by omega, by go_num, by rw [HTK.out]; exact HCJ.out, ext_of (by (repeat (first | exact grow_refl _ | refine grow_ext _ ?_ | refine grow_alloc _ ?_ | refine grow_drew ?_)))⟩
            case measure => simp [intOf]; omega
          · have dg : decide (G < H) = true := by simp; omega
            have hf := HNK.out (HON.out hg)
            rw [HH.out] at hf
            subst hf
            clear hg
            go_wp2_with fail
            refine wp_region_grows (by kernel_rfl) (by kernel_rfl) ?_
            repeat (go_big_quiet_step ((go_at_call 65; exact Calls.quiet_ext (HG.out _))))
            refine wpQuiet_nil ?_; rintro _ ⟨xq, rfl⟩
            clear c0 c1 c2' c3 c4 c5 d0 d1 d2 d3 d4 d5
            go_wp2
            go_ret
            refine Ret.of (HBE.out.trans (Below.mono ?_ HBE.out.size))
            obtain ⟨zz, e⟩ := HZ3.out
            rw [e]
            (repeat (first | exact grow_refl _ | refine grow_ext _ ?_ | refine grow_alloc _ ?_ | refine grow_drew ?_))
        · obtain rfl : j = LG.length := by omega
          rw [List.take_length] at HCJ
          go_wp2
          go_roundw
          case rel => exact ⟨k + 1, by omega, by go_num, by rw [HSK.out, clear_append, HCL.out, HCJ.out]; rfl, HZ3.out⟩
          case measure => simp [intOf]; omega
    · obtain rfl : k = N.toNat := by omega
      have hf := HCL.out
      rw [HH.out] at hf
      subst hf
      go_wp2_with fail
      go_at_call 61; refine (HCO2.out _ (HR.out.below HBZ.out)).mono ?_; rintro e w' ⟨rfl, y1, rfl⟩
      go_wp2
      go_ret
      exact Ret.of (HBZ.out.trans (Below.mono (by (repeat (first | exact grow_refl _ | refine grow_ext _ ?_ | refine grow_alloc _ ?_ | refine grow_drew ?_))) HBZ.out.size))

end Go.Proofs.YtmoechhfjmemaaaGreat
