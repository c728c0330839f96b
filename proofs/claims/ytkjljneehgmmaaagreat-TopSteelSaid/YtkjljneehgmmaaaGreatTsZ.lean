/- TopSteel: supply.chains of a valid detail. Printed by mktsz.py. -/
import Derived.Test.YtkjljneehgmmaaaGreatAbK6
import Derived.Test.YtkjljneehgmmaaaGreatAbK2
namespace Go.Proofs.YtkjljneehgmmaaaGreat
set_option linter.unusedVariables false
set_option linter.unusedSimpArgs false
open Go Go.RowKit
set_option maxRecDepth 20000

theorem legsI_len {l : List Br} {rs : List Rn} (h : laidB l rs = true) {i : Int} (h0 : 0 ≤ i) (hi : i < countS rs) : (legsI l rs i).length = (legsC (barOf l (markI rs i)).code).length := by
 obtain ⟨r, j, e, -, -, -⟩ := placeR_some (laidB_iff.1 h).2.2.1 h0 hi
 have hk : markI rs i = r.mark := by unfold markI; rw [e]
 unfold legsI pathI
 rw [e, hk, legsP_len]
 show ((pathL (barOf l r.mark)).map (laidP r j)).length - 1 = _
 rw [List.length_map]
 unfold pathL
 rw [ptsK_length]
 omega
structure RodOk (w : World) (x : Dt) (r : Rod) (i : Int) : Prop where
 eq : r = rodI x.l x.rs i
 br : BrOk w r.bar
 dims : ∃ a n c, r.bar.dv = .slice a n c
 some : ∀ g, mainI x.l x.rs i = .some g → ∃ (k : Nat) (hk : k < r.legs.length), r.legs[k] = g ∧ r.main = k ∧ ∀ v w', MbAt w' x.q → BrOk w' r.bar → Boxes w' v r.legs → Calls Tryz.prog 169 #[(.agg #[.int .i64 x.ru.num, .int .i64 x.ru.den, .int .i64 x.ru.pn, .int .i64 x.ru.pd, .int .i64 x.ru.bn, .int .i64 x.ru.bd, .int .i64 x.ru.ln, .int .i64 x.ru.ld, .int .i64 x.ru.least]), (.agg #[.string x.q.name, x.q.u, x.q.t, .int .i64 x.q.cover, .int .i64 x.q.agg, .int .i64 x.q.poker]), (.agg #[.string r.bar.mark, .int .i64 r.bar.size, .int .i64 r.bar.count, .int .i64 r.bar.code, r.bar.dv]), v] w' (Ret w' (.tuple #[.int .i64 (endA x i g).1, .int .i64 (endA x i g).2, .int .i64 0]))
 none : mainI x.l x.rs i = .none → r.main = -1
theorem rodOk (x : Dt) (hv : DtV x) {i : Int} (h0 : 0 ≤ i) (h1 : i < countS x.rs) (w : World) (h : DtAt w x) : RodOk w x (rodI x.l x.rs i) i := by
 have hsh := barOf_ok x hv h0 h1
 obtain ⟨-, hf, -⟩ := mark_of hv.laid h0 h1
 obtain ⟨k, hk, -, e, -⟩ := bar_at hf
 obtain ⟨a, cap, -, -, -, h4⟩ := h.l.shape
 have hbo := (h4 k hk).1
 have hbr : BrOk w (barOf x.l (markI x.rs i)) := by rw [e]; exact hbo
 refine ⟨rfl, hbr, let ⟨a, c, e, _⟩ := hbr.dims; ⟨a, _, c, e⟩, fun g hg => ?_, fun hg => mainAt_none hg⟩
 obtain ⟨k, hk, e1, e2, e3⟩ := mainAt_some hg
 have e4 : kOf x i = k := by unfold kOf; rw [e3]; rfl
 refine ⟨k, hk, e1, e2, fun v w' hq hb hB => ?_⟩
 have hc := anchorEnds_c x.ru x.q (barOf x.l (markI x.rs i)) (legsI x.l x.rs i) v k hk hv.ru hv.q hsh (legsI_valid hv.laid h0 h1) (legsI_len hv.laid h0 h1) e3 w' hq hb hB
 have e5 : endsI x.ru x.q (barOf x.l (markI x.rs i)) (legsI x.l x.rs i) k (legsI x.l x.rs i)[k] = endA x i g := by
  unfold endA
  rw [e4]
  exact congrArg _ e1
 rw [e5] at hc
 exact hc
theorem run_bx_lo (a b c d e f : Int) (w : World) : (Instr.field 40 (.agg #[.int .i64 a, .int .i64 b, .int .i64 c, .int .i64 d, .int .i64 e, .int .i64 f]) 0).run Tryz.prog w = .ok (.agg #[.int .i64 a, .int .i64 b, .int .i64 c]) w := by kernel_rfl
theorem run_bx_hi (a b c d e f : Int) (w : World) : (Instr.field 40 (.agg #[.int .i64 a, .int .i64 b, .int .i64 c, .int .i64 d, .int .i64 e, .int .i64 f]) 1).run Tryz.prog w = .ok (.agg #[.int .i64 d, .int .i64 e, .int .i64 f]) w := by kernel_rfl
theorem run_pt_x (a b c : Int) (w : World) : (Instr.field 38 (.agg #[.int .i64 a, .int .i64 b, .int .i64 c]) 0).run Tryz.prog w = .ok (.int .i64 a) w := by kernel_rfl
attribute [local go_sem] run_bx_lo run_bx_hi run_pt_x
set_option maxRecDepth 100000 in
set_option maxHeartbeats 16000000 in
theorem supChains_c (x : Dt) (hv : DtV x) (w : World) (h : DtAt w x) : Calls Tryz.prog 108 #[(.agg #[.string x.q.name, x.q.u, x.q.t, .int .i64 x.q.cover, .int .i64 x.q.agg, .int .i64 x.q.poker, x.lv, x.rv, x.pv, x.dv, .int .i64 x.ru.num, .int .i64 x.ru.den, .int .i64 x.ru.pn, .int .i64 x.ru.pd, .int .i64 x.ru.bn, .int .i64 x.ru.bd, .int .i64 x.ru.ln, .int .i64 x.ru.ld, .int .i64 x.ru.least])] w (RetCh w x (chsI x)) := by
 have HX := hd0 h
 have HV := hd0 hv
 have HLV := hd0 (fun w h => lapValid_c x hv w h)
 have HRD := hd0 (fun w h => rods_c x hv w h)
 have HCN := hd0 (fun w h => lapChains_c x hv w h)
 have hcn : (chnI x).length ≤ 100000 := by
  have h1 := chnTo_le x.lp (countS x.rs).toNat
  have h2 := (count_le hv.laid 0).2.2
  unfold chnI
  omega
 clear h hv
 go_enter Tryz.func108, Tryz.ntmps108
 go_upto_region 1 with fail
 refine world_mask (fun W => Below w.heap.size w W ∧ Blk W w.heap.size (dtC x) 34) _ ⟨gro, Blk.new _ _ _⟩ ?_
 rintro W1 ⟨hb1, K1⟩
 have HB1 := hd0 hb1
 have HK1 := hd0 K1
 clear hb1 K1
 go_upto_region 3 with (first | (refine wpList_load_row rfl _ _ rfl _ rfl _ (dtC x) _ _ HK1.out rfl rfl rfl ?_) | (go_at_call 27; refine (HLV.out _ (HX.out.below (grob HB1.out))).mono ?_; rintro e w' ⟨rfl, x1, rfl⟩))
 refine world_mask (fun W => Below w.heap.size w W ∧ Blk W w.heap.size (dtC x) 34) _ ⟨grob HB1.out, HK1.out.below gro⟩ ?_
 clear HB1 HK1
 rintro W2 ⟨hb2, K2⟩
 have HB2 := hd0 hb2
 have HK2 := hd0 K2
 clear hb2 K2
 go_upto_region 6 with (first | (refine wpList_load_row rfl _ _ rfl _ rfl _ (dtC x) _ _ HK2.out rfl rfl rfl ?_) | (go_at_call 28; refine (HRD.out _ (HX.out.below (grob HB2.out))).mono ?_; rintro e w' ⟨vr, rfl, hrd, x2, rfl⟩; have hrr := hrd.read; obtain ⟨ra, rc, erv, -⟩ := hrr.shape; subst erv; have HRR := hd0 hrr; clear hrd hrr))
 refine world_mask (fun W => ScJ w x (W2.heap.size + x2.heap.size) (.slice ra (rodsI x).length rc) W) _ ⟨grob HB2.out, HK2.out.below gro, Blk.new' (by simp only [size_ext]) _ _, HRR.out.below gro⟩ ?_
 have hg5 : w.heap.size ≤ W2.heap.size + x2.heap.size := by have := HB2.out.size; omega
 clear HB2 HK2 HRR
 generalize W2.heap.size + x2.heap.size = g5 at *
 intro W3 J3
 have HJ3 := hd0 J3
 have HK3 := hd0 J3.dt
 clear J3
 go_upto_region 10 with (first | (refine wpList_load_row rfl _ _ rfl _ rfl _ (dtC x) _ _ HK3.out rfl rfl rfl ?_) | (go_at_call 164; refine (HCN.out _ (HX.out.below HJ3.out.below)).mono ?_; rintro e w' ⟨vc, rfl, hcn2, x3, rfl⟩; have hnr := hcn2.read; obtain ⟨ca, cc, ecv, -, cc2, -⟩ := hnr; subst ecv; have HNR := hd0 hcn2.read; clear hcn2))
 refine world_mask (fun W => ScJ w x g5 (.slice ra (rodsI x).length rc) W ∧ NtsR W (.slice ca (chnI x).length cc) (chnI x)) _ ⟨HJ3.out.grows gro, HNR.out.below gro⟩ ?_
 clear HJ3 HK3 HNR
 rintro W1 ⟨J1, N1⟩
 have HJ1 := hd0 J1
 obtain ⟨ca', cc', eca, -, -, n4⟩ := N1
 cases eca
 have HN4 := hd0 n4
 clear J1 n4
 go_wp2_with fail
 go_loopw [42, 8, 6] (fun i v e wr => ∃ k : Nat, k ≤ (chnI x).length ∧ i = .int .i64 k ∧ e = .int .i64 0 ∧ ChO W1 wr v ((chsI x).take k)) (fun i _ _ _ => (chnI x).length - (intOf i).toNat)
 case atStart => exact ⟨0, Nat.zero_le _, rfl, rfl, ChO.nil _⟩
 case round =>
  obtain ⟨W3, rfl⟩ : ∃ W : World, W = wr := ⟨_, rfl⟩
  obtain ⟨k, hk, rfl, rfl, hch⟩ := hrel
  have hcb := hch.below
  obtain ⟨P, hP, hrow, hin⟩ := hch.row
  have htl : ((chsI x).take k).length = k := by rw [List.length_take]; unfold chsI; rw [List.length_map]; omega
  obtain ⟨LC, hL⟩ : ∃ L, (chsI x).take k = L := ⟨_, rfl⟩
  rw [hL] at hch hP hrow htl
  have HLE := hd0 hL
  clear hL
  obtain ⟨av, cv, rfl, -, hcv, -⟩ := own_shape hrow
  have hcv3 : cv ≤ 9223372036854775807 := hcv
  have HCB := hd0 hcb
  have HP := hd0 hP
  have HROW := hd0 hrow
  have HIN := hd0 hin
  have HTL := hd0 htl
  by_cases hlt : k < (chnI x).length
  ·
   obtain ⟨hck, hcf⟩ := chnI_ok x HV.out _ (List.getElem_mem hlt)
   obtain ⟨bl, ol, u, ela, cu, hu⟩ := HN4.out k hlt
   subst ela
   have HCI := hd0 (show (chsI x).take (k + 1) = (chsI x).take k ++ [chI x ((chnI x)[k]'hlt)] by
    have hk2 : k < (chsI x).length := by unfold chsI; rw [List.length_map]; exact hlt
    have e1 : (chsI x)[k]'hk2 = chI x ((chnI x)[k]'hlt) := by simp [chsI]
    rw [List.take_succ_eq_append_getElem hk2, e1])
   obtain ⟨C, hC⟩ : ∃ c, (chnI x)[k] = c := ⟨_, rfl⟩
   rw [hC] at hck hu HCI
   obtain ⟨m, hm⟩ : ∃ m, C.length = m + 1 := ⟨C.length - 1, by have := List.length_pos_iff.2 hck.ne; omega⟩
   obtain ⟨ab, cb, eu, hcb1, hcb2, hu4⟩ := hu.shape
   obtain ⟨bb, ob, eab, hu0⟩ := hu4 0 (by omega)
   obtain ⟨bb', ob', eab', hum⟩ := hu4 m (by omega)
   subst eab
   cases eab'
   rw [hm] at eu hcb1
   subst eu
   have e0 : C[0]'(by omega) = C.headD 0 := by cases C with | nil => exact absurd rfl hck.ne | cons a l => rfl
   have em : C[m]'(by omega) = C.getLast?.getD 0 := by rw [List.getLast?_eq_getElem?, show C.length - 1 = m by omega, List.getElem?_eq_getElem (show m < C.length by omega)]; rfl
   rw [e0] at hu0
   rw [em] at hum
   obtain ⟨i0, hi0⟩ : ∃ i, C.headD 0 = i := ⟨_, rfl⟩
   obtain ⟨i1, hi1⟩ : ∃ i, C.getLast?.getD 0 = i := ⟨_, rfl⟩
   have hR0 := hck.one _ (head_mem hck.ne)
   have hR1 := hck.one _ (last_mem hck.ne)
   have hTh := hck.one _ (thinI_mem x hck.ne)
   rw [hi0] at hu0 hR0
   rw [hi1] at hum hR1
   obtain ⟨k0, hk0, ei0, erd0⟩ := rodsI_get x hR0.1 hR0.2
   obtain ⟨k1, hk1, ei1, erd1⟩ := rodsI_get x hR1.1 hR1.2
   obtain ⟨kt, hkt, eit, erdt⟩ := rodsI_get x hTh.1 hTh.2
   have HCI2 := hd0 (show chI x C = chOf C (areaC x C) (spanI x i0 i1) by unfold chI; rw [hi0, hi1])
   have hOK0 := rodOk x HV.out hR0.1 hR0.2 w HX.out
   have hOK1 := rodOk x HV.out hR1.1 hR1.2 w HX.out
   have hAR := areaC_ok x HV.out hck
   have hsz : ((rodsI x)[kt]).bar.size = sizeI x.l x.rs (thinI x C) := by rw [erdt]; rfl
   have HAR := hd0 (fun w => AreaSt_v ((rodsI x)[kt]).bar.size (areaC x C) (by rw [hsz]; exact hAR.1) (by rw [hsz]; rfl) w)
   have HMN := hd0 (fun (W : World) hr hg hu => minChn_c x C hck (.slice (some ⟨bb, ob, none⟩) (m + 1) cb) (.slice ra (rodsI x).length rc) g5 W hr hg hu)
   rw [eit] at HMN
   obtain ⟨ra', rc', era, -, -, hr4⟩ := HJ1.out.rods.shape
   cases era
   obtain ⟨br, orr, ut, era, hct, -⟩ := hr4 kt hkt
   subst era
   obtain ⟨br0, or0, u0, era0, hc0, hl0⟩ := hr4 k0 hk0
   cases era0
   obtain ⟨br1, or1, u1, era1, hc1, hl1⟩ := hr4 k1 hk1
   cases era1
   have ct := hct.2.1
   rw [erd0] at hc0 hl0
   rw [erd1] at hc1 hl1
   rw [ei0] at hOK0 hc0 hl0
   rw [ei1] at hOK1 hc1 hl1
   obtain ⟨szt, hszt⟩ : ∃ s, ((rodsI x)[kt]).bar.size = s := ⟨_, rfl⟩
   rw [hszt] at ct HAR
   obtain ⟨R0, hRr0⟩ : ∃ r, rodI x.l x.rs (k0 : Int) = r := ⟨_, rfl⟩
   rw [hRr0] at hOK0 hc0 hl0
   obtain ⟨⟨bm0, bs0, bc0, bk0, bd0, bv0⟩, lg0, mn0⟩ := R0
   obtain ⟨-, hbr0, ⟨ad0, dl0, dc0, ebv0⟩, hsome0, hnone0⟩ := hOK0
   obtain ⟨al0, lc0, eul0, -, -, -⟩ := hl0.shape
   simp only at ebv0 hsome0 hnone0 eul0 hl0 hbr0
   subst ebv0
   subst eul0
   obtain ⟨ll0, hll0⟩ : ∃ n, lg0.length = n := ⟨_, rfl⟩
   rw [hll0] at hc0 hl0
   obtain ⟨R1, hRr1⟩ : ∃ r, rodI x.l x.rs (k1 : Int) = r := ⟨_, rfl⟩
   rw [hRr1] at hOK1 hc1 hl1
   obtain ⟨⟨bm1, bs1, bc1, bk1, bd1, bv1⟩, lg1, mn1⟩ := R1
   obtain ⟨-, hbr1, ⟨ad1, dl1, dc1, ebv1⟩, hsome1, hnone1⟩ := hOK1
   obtain ⟨al1, lc1, eul1, -, -, -⟩ := hl1.shape
   simp only at ebv1 hsome1 hnone1 eul1 hl1 hbr1
   subst ebv1
   subst eul1
   obtain ⟨ll1, hll1⟩ : ∃ n, lg1.length = n := ⟨_, rfl⟩
   rw [hll1] at hc1 hl1
   have HC0 := hd0 hc0
   have HC1 := hd0 hc1
   have HL0 := hd0 hl0
   have HL1 := hd0 hl1
   have HS0 := hd0 hsome0
   have HS1 := hd0 hsome1
   have HN0 := hd0 hnone0
   have HN1' := hd0 hnone1
   have HBR0 := hd0 hbr0
   have HBR1 := hd0 hbr1
   have HLL0 := hd0 hll0
   have HLL1 := hd0 hll1
   have HU := hd0 hu
   have HU0 := hd0 hu0
   have HUM := hd0 hum
   have HCT := hd0 ct
   have HRR1 := hd0 HJ1.out.rods
   have cu3 := cell_below' cu HCB.out
   have i1k : (0 : Int) ≤ (k : Int) := by omega
   have i2k : (k : Int) < ((chnI x).length : Int) := by omega
   have HCM := hd0 hcb1
   have HKT := hd0 (And.intro hkt (And.intro hk0 hk1))
   have HTL2 := hd0 htl
   have HEI := hd0 (And.intro hi0 (And.intro hi1 (And.intro ei0 ei1)))
   have HCL := hd0 hm
   have HCK := hd0 hck
   have hg11 : W1.heap.size ≤ W3.heap.size := HCB.out.size
   clear hc0 hc1 hl0 hl1 hsome0 hsome1 hnone0 hnone1 hbr0 hbr1 hll0 hll1 hu hu0 hum ct hct hr4 hu4 hcb1 hck hcf hC hm e0 em hi0 hi1 hR0 hR1 hTh ei0 ei1 eit erd0 erd1 erdt hRr0 hRr1 hAR hsz hszt cu hch hcb hP hrow hin htl hk0 hk1 hkt
   go_upto_region 14 with fail
   refine world_mask (fun W => Below W3.heap.size W3 W ∧ Blk W W3.heap.size #[.slice (some ⟨bb, ob, none⟩) (m + 1) cb, .int .i64 0, .int .i64 0, .bool false, .int .i64 0] 79) _ ⟨gro, Blk.new _ _ _⟩ ?_
   clear cu3
   generalize hG : W3.heap.size = g11 at hg11 ⊢
   rintro W4 ⟨hb4, K4⟩
   rw [← hG] at hb4
   have HB4 := hd0 hb4
   have HK4 := hd0 K4
   have HG := hd0 hG
   have HG11 := hd0 hg11
   have HB14 := hd0 (HCB.out.trans (Below.mono hb4 HCB.out.size))
   have HR5 := hd0 (fun y => cell_ext_some (cell_below' (HJ1.out.g5.cell 0) HB14.out) y)
   have HS5 := hd0 (fun y => cell_ext_some (cell_below' HCT.out HB14.out) y)
   have kt1 : (0 : Int) ≤ (kt : Int) := by omega
   have kt2 : (kt : Int) < ((rodsI x).length : Int) := by have := HKT.out.1; omega
   clear hb4 K4 hG hg11
   go_upto_region 16 with (first | (go_at_call 165; refine (HMN.out _ (HRR1.out.below HB14.out) (cell_below' (HJ1.out.g5.cell 0) HB14.out) (HU.out.below HB14.out)).mono ?_; rintro e w' ⟨rfl, y1, rfl⟩; have r5 := HR5.out y1; have s5 := HS5.out y1) | (go_at_call 168; refine (HAR.out _).mono ?_; rintro e w' ⟨rfl, y2, rfl⟩; have f4 := ((HK4.out.ext y1).ext y2).frozen 4; have t4 := ((HK4.out.ext y1).ext y2).cell 4))
   refine world_mask (fun W => Below W3.heap.size W3 W ∧ Blk W g11 #[.slice (some ⟨bb, ob, none⟩) (m + 1) cb, .int .i64 0, .int .i64 0, .bool false, .int .i64 (areaC x C)] 79) _ ⟨Below.setCell (show Below W3.heap.size W3 (ext (ext W4 y1) y2) from grob HB4.out) (by rw [HG.out]; exact Nat.le_refl _) _, ((HK4.out.ext y1).ext y2).set 4 _⟩ ?_
   clear r5 s5 f4 t4 HB4 HK4 HB14 HR5 HS5
   rintro W5 ⟨hb5, K5⟩
   have HB5 := hd0 hb5
   have HK5 := hd0 K5
   have HB15 := hd0 (HCB.out.trans (Below.mono hb5 HCB.out.size))
   have k01 : (0 : Int) ≤ (k0 : Int) := by omega
   have k02 : (k0 : Int) < ((rodsI x).length : Int) := by have := HKT.out.2.1; omega
   have k11 : (0 : Int) ≤ (k1 : Int) := by omega
   have k12 : (k1 : Int) < ((rodsI x).length : Int) := by have := HKT.out.2.2; omega
   have hmb : (m : Int) ≤ 9223372036854775806 := by have := HCM.out; omega
   have HZ5 := hd0 (cell_below' (HJ1.out.g5.cell 0) HB15.out)
   have HZ6 := hd0 (show W5.cell? ⟨bb, ob, none⟩ = some (.int .i64 (k0 : Int)) by rw [← HEI.out.2.2.1]; exact cell_below' HU0.out HB15.out)
   have HZ7 := hd0 (show W5.cell? ⟨bb, ob + m, none⟩ = some (.int .i64 (k1 : Int)) by rw [← HEI.out.2.2.2]; exact cell_below' HUM.out HB15.out)
   have HD0 := hd0 (HC0.out.below HB15.out)
   have HD1 := hd0 (HC1.out.below HB15.out)
   clear hb5 K5
   go_upto_region 18 with fail
   have hok : mkOk [15, 17, 16, 18] [⟨15, 17, 83, #[.string bm0, .int .i64 bs0, .int .i64 bc0, .int .i64 bk0, .slice ad0 dl0 dc0, .slice al0 ll0 lc0, .int .i64 mn0]⟩, ⟨16, 18, 83, #[.string bm1, .int .i64 bs1, .int .i64 bc1, .int .i64 bk1, .slice ad1 dl1 dc1, .slice al1 ll1 lc1, .int .i64 mn1]⟩] := mkOk_two (by decide)
   refine wp_region_M [.slice (some ⟨br, orr, none⟩) (rodsI x).length rc, .slice (some ⟨bb, ob, none⟩) (m + 1) cb, .pointer (some ⟨bb, ob, none⟩), .int .i64 (k0 : Int), .pointer (some ⟨br, orr + k0 * 7, none⟩), (.agg #[.string bm0, .int .i64 bs0, .int .i64 bc0, .int .i64 bk0, .slice ad0 dl0 dc0, .slice al0 ll0 lc0, .int .i64 mn0]), .slice (some ⟨br, orr, none⟩) (rodsI x).length rc, .slice (some ⟨bb, ob, none⟩) (m + 1) cb, .slice (some ⟨bb, ob, none⟩) (m + 1) cb, .int .i64 ((m : Int) + 1), .int .i64 (m : Int), .pointer (some ⟨bb, ob + m, none⟩), .int .i64 (k1 : Int), .pointer (some ⟨br, orr + k1 * 7, none⟩), (.agg #[.string bm1, .int .i64 bs1, .int .i64 bc1, .int .i64 bk1, .slice ad1 dl1 dc1, .slice al1 ll1 lc1, .int .i64 mn1]), undef, undef, undef, undef] [15, 17, 16, 18] [⟨15, 17, 83, #[.string bm0, .int .i64 bs0, .int .i64 bc0, .int .i64 bk0, .slice ad0 dl0 dc0, .slice al0 ll0 lc0, .int .i64 mn0]⟩, ⟨16, 18, 83, #[.string bm1, .int .i64 bs1, .int .i64 bc1, .int .i64 bk1, .slice ad1 dl1 dc1, .slice al1 ll1 lc1, .int .i64 mn1]⟩] (by kernel_rfl) (by kernel_rfl) ?_ ?_ ?_
   ·intro b hb
    simp only [List.mem_cons, List.not_mem_nil, or_false] at hb
    rcases hb with rfl | rfl
    all_goals exact ⟨of_decide_eq_true (by kernel_rfl), of_decide_eq_true (by kernel_rfl)⟩
   ·intro L vs W i hlen hJ hi
    obtain ⟨x0, vs0, rfl, hlen0⟩ := len_cons hlen
    obtain ⟨x1, vs1, rfl, hlen1⟩ := len_cons hlen0
    obtain ⟨x2, vs2, rfl, hlen2⟩ := len_cons hlen1
    obtain ⟨x3, vs3, rfl, hlen3⟩ := len_cons hlen2
    obtain ⟨x4, vs4, rfl, hlen4⟩ := len_cons hlen3
    obtain ⟨x5, vs5, rfl, hlen5⟩ := len_cons hlen4
    obtain ⟨x6, vs6, rfl, hlen6⟩ := len_cons hlen5
    obtain ⟨x7, vs7, rfl, hlen7⟩ := len_cons hlen6
    obtain ⟨x8, vs8, rfl, hlen8⟩ := len_cons hlen7
    obtain ⟨x9, vs9, rfl, hlen9⟩ := len_cons hlen8
    obtain ⟨x10, vs10, rfl, hlen10⟩ := len_cons hlen9
    obtain ⟨x11, vs11, rfl, hlen11⟩ := len_cons hlen10
    obtain ⟨x12, vs12, rfl, hlen12⟩ := len_cons hlen11
    obtain ⟨x13, vs13, rfl, hlen13⟩ := len_cons hlen12
    obtain ⟨x14, vs14, rfl, hlen14⟩ := len_cons hlen13
    obtain ⟨x15, vs15, rfl, hlen15⟩ := len_cons hlen14
    obtain ⟨x16, vs16, rfl, hlen16⟩ := len_cons hlen15
    obtain ⟨x17, vs17, rfl, hlen17⟩ := len_cons hlen16
    obtain ⟨x18, vs18, rfl, hlen18⟩ := len_cons hlen17
    obtain rfl := len_nil hlen18
    clear hlen hlen0 hlen1 hlen2 hlen3 hlen4 hlen5 hlen6 hlen7 hlen8 hlen9 hlen10 hlen11 hlen12 hlen13 hlen14 hlen15 hlen16 hlen17 hlen18
    obtain ⟨hun, o, ho, hd⟩ := mem_ready.1 hi
    have hin : i < 19 := by have := (Array.getElem?_eq_some_iff.1 ho).1; simpa using this
    refine wpOp_free (B := fun a' W' => ∃ x0 x1 x2 x3 x4 x5 x6 x7 x8 x9 x10 x11 x12 x13 x14 x15 x16 x17 x18, a' = putAll _ [x0, x1, x2, x3, x4, x5, x6, x7, x8, x9, x10, x11, x12, x13, x14, x15, x16, x17, x18] _ ∧ InvM _ _ _ _ [x0, x1, x2, x3, x4, x5, x6, x7, x8, x9, x10, x11, x12, x13, x14, x15, x16, x17, x18] (L.setIfInBounds i true) W') (fun _ _ h => by obtain ⟨x0, x1, x2, x3, x4, x5, x6, x7, x8, x9, x10, x11, x12, x13, x14, x15, x16, x17, x18, h1, h2⟩ := h; exact ⟨[x0, x1, x2, x3, x4, x5, x6, x7, x8, x9, x10, x11, x12, x13, x14, x15, x16, x17, x18], rfl, h1, h2⟩) ?_
    intro K HK
    simp only [putAll_cons, putAll_nil, put_some, put_none, List.setIfInBounds_toArray, List.set_cons_succ, List.set_cons_zero] at HK ⊢
    have HOK := hd0 hok
    clear hok
    have z5 := cell_below' HZ5.out hJ.below
    have z6 := cell_below' HZ6.out hJ.below
    have z7 := cell_below' HZ7.out hJ.below
    obtain ⟨a0, a1, a2, a3, a4, a5, a6⟩ := HD0.out.below hJ.below
    obtain ⟨c0, c1, c2, c3, c4, c5, c6⟩ := HD1.out.below hJ.below
    rcases (show i = 0 ∨ i = 1 ∨ i = 2 ∨ i = 3 ∨ i = 4 ∨ i = 5 ∨ i = 6 ∨ i = 7 ∨ i = 8 ∨ i = 9 ∨ i = 10 ∨ i = 11 ∨ i = 12 ∨ i = 13 ∨ i = 14 ∨ i = 15 ∨ i = 16 ∨ i = 17 ∨ i = 18 by omega) with rfl | rfl | rfl | rfl | rfl | rfl | rfl | rfl | rfl | rfl | rfl | rfl | rfl | rfl | rfl | rfl | rfl | rfl | rfl
    ·obtain rfl := Option.some.inj ho
     refine wpOp_of_list (by rfl) ?_
     go_wp2
     exact HK.out _ _ ⟨_, _, _, _, _, _, _, _, _, _, _, _, _, _, _, _, _, _, _, rfl, hJ.up HOK.out 0 (by decide) (show 0 < 19 by decide) rfl⟩
    ·obtain rfl := Option.some.inj ho
     refine wpOp_of_list (by rfl) ?_
     go_wp2
     exact HK.out _ _ ⟨_, _, _, _, _, _, _, _, _, _, _, _, _, _, _, _, _, _, _, rfl, hJ.up HOK.out 1 (by decide) (show 1 < 19 by decide) rfl⟩
    ·obtain rfl := Option.some.inj ho
     have d1 : x1 = .slice (some ⟨bb, ob, none⟩) (m + 1) cb := hJ.val 1 (show 1 < 19 by decide) (by decide) (getD_upJ (hd ⟨1, .data⟩ (by simp) (by rfl)))
     subst d1
     refine wpOp_of_list (by rfl) ?_
     go_wp2
     exact HK.out _ _ ⟨_, _, _, _, _, _, _, _, _, _, _, _, _, _, _, _, _, _, _, rfl, hJ.up HOK.out 2 (by decide) (show 2 < 19 by decide) rfl⟩
    ·obtain rfl := Option.some.inj ho
     have d2 : x2 = .pointer (some ⟨bb, ob, none⟩) := hJ.val 2 (show 2 < 19 by decide) (by decide) (getD_upJ (hd ⟨2, .data⟩ (by simp) (by rfl)))
     subst d2
     refine wpOp_of_list (by rfl) ?_
     go_wp2
     exact HK.out _ _ ⟨_, _, _, _, _, _, _, _, _, _, _, _, _, _, _, _, _, _, _, rfl, hJ.up HOK.out 3 (by decide) (show 3 < 19 by decide) rfl⟩
    ·obtain rfl := Option.some.inj ho
     have d0 : x0 = .slice (some ⟨br, orr, none⟩) (rodsI x).length rc := hJ.val 0 (show 0 < 19 by decide) (by decide) (getD_upJ (hd ⟨0, .data⟩ (by simp) (by rfl)))
     have d3 : x3 = .int .i64 (k0 : Int) := hJ.val 3 (show 3 < 19 by decide) (by decide) (getD_upJ (hd ⟨3, .data⟩ (by simp) (by rfl)))
     subst d0 d3
     refine wpOp_of_list (by rfl) ?_
     go_wp2
     exact HK.out _ _ ⟨_, _, _, _, _, _, _, _, _, _, _, _, _, _, _, _, _, _, _, rfl, hJ.up HOK.out 4 (by decide) (show 4 < 19 by decide) rfl⟩
    ·obtain rfl := Option.some.inj ho
     have d4 : x4 = .pointer (some ⟨br, orr + k0 * 7, none⟩) := hJ.val 4 (show 4 < 19 by decide) (by decide) (getD_upJ (hd ⟨4, .data⟩ (by simp) (by rfl)))
     subst d4
     refine wpOp_of_list (by rfl) ?_
     go_wp2
     exact HK.out _ _ ⟨_, _, _, _, _, _, _, _, _, _, _, _, _, _, _, _, _, _, _, rfl, hJ.up HOK.out 5 (by decide) (show 5 < 19 by decide) rfl⟩
    ·obtain rfl := Option.some.inj ho
     refine wpOp_of_list (by rfl) ?_
     go_wp2
     exact HK.out _ _ ⟨_, _, _, _, _, _, _, _, _, _, _, _, _, _, _, _, _, _, _, rfl, hJ.up HOK.out 6 (by decide) (show 6 < 19 by decide) rfl⟩
    ·obtain rfl := Option.some.inj ho
     refine wpOp_of_list (by rfl) ?_
     go_wp2
     exact HK.out _ _ ⟨_, _, _, _, _, _, _, _, _, _, _, _, _, _, _, _, _, _, _, rfl, hJ.up HOK.out 7 (by decide) (show 7 < 19 by decide) rfl⟩
    ·obtain rfl := Option.some.inj ho
     refine wpOp_of_list (by rfl) ?_
     go_wp2
     exact HK.out _ _ ⟨_, _, _, _, _, _, _, _, _, _, _, _, _, _, _, _, _, _, _, rfl, hJ.up HOK.out 8 (by decide) (show 8 < 19 by decide) rfl⟩
    ·obtain rfl := Option.some.inj ho
     have d8 : x8 = .slice (some ⟨bb, ob, none⟩) (m + 1) cb := hJ.val 8 (show 8 < 19 by decide) (by decide) (getD_upJ (hd ⟨8, .data⟩ (by simp) (by rfl)))
     subst d8
     refine wpOp_of_list (by rfl) ?_
     go_wp2
     exact HK.out _ _ ⟨_, _, _, _, _, _, _, _, _, _, _, _, _, _, _, _, _, _, _, rfl, hJ.up HOK.out 9 (by decide) (show 9 < 19 by decide) rfl⟩
    ·obtain rfl := Option.some.inj ho
     have d9 : x9 = .int .i64 ((m : Int) + 1) := hJ.val 9 (show 9 < 19 by decide) (by decide) (getD_upJ (hd ⟨9, .data⟩ (by simp) (by rfl)))
     subst d9
     refine wpOp_of_list (by rfl) ?_
     go_wp2
     exact HK.out _ _ ⟨_, _, _, _, _, _, _, _, _, _, _, _, _, _, _, _, _, _, _, rfl, hJ.up HOK.out 10 (by decide) (show 10 < 19 by decide) rfl⟩
    ·obtain rfl := Option.some.inj ho
     have d7 : x7 = .slice (some ⟨bb, ob, none⟩) (m + 1) cb := hJ.val 7 (show 7 < 19 by decide) (by decide) (getD_upJ (hd ⟨7, .data⟩ (by simp) (by rfl)))
     have d10 : x10 = .int .i64 (m : Int) := hJ.val 10 (show 10 < 19 by decide) (by decide) (getD_upJ (hd ⟨10, .data⟩ (by simp) (by rfl)))
     subst d7 d10
     refine wpOp_of_list (by rfl) ?_
     go_wp2
     exact HK.out _ _ ⟨_, _, _, _, _, _, _, _, _, _, _, _, _, _, _, _, _, _, _, rfl, hJ.up HOK.out 11 (by decide) (show 11 < 19 by decide) rfl⟩
    ·obtain rfl := Option.some.inj ho
     have d11 : x11 = .pointer (some ⟨bb, ob + m, none⟩) := hJ.val 11 (show 11 < 19 by decide) (by decide) (getD_upJ (hd ⟨11, .data⟩ (by simp) (by rfl)))
     subst d11
     refine wpOp_of_list (by rfl) ?_
     go_wp2
     exact HK.out _ _ ⟨_, _, _, _, _, _, _, _, _, _, _, _, _, _, _, _, _, _, _, rfl, hJ.up HOK.out 12 (by decide) (show 12 < 19 by decide) rfl⟩
    ·obtain rfl := Option.some.inj ho
     have d6 : x6 = .slice (some ⟨br, orr, none⟩) (rodsI x).length rc := hJ.val 6 (show 6 < 19 by decide) (by decide) (getD_upJ (hd ⟨6, .data⟩ (by simp) (by rfl)))
     have d12 : x12 = .int .i64 (k1 : Int) := hJ.val 12 (show 12 < 19 by decide) (by decide) (getD_upJ (hd ⟨12, .data⟩ (by simp) (by rfl)))
     subst d6 d12
     refine wpOp_of_list (by rfl) ?_
     go_wp2
     exact HK.out _ _ ⟨_, _, _, _, _, _, _, _, _, _, _, _, _, _, _, _, _, _, _, rfl, hJ.up HOK.out 13 (by decide) (show 13 < 19 by decide) rfl⟩
    ·obtain rfl := Option.some.inj ho
     have d13 : x13 = .pointer (some ⟨br, orr + k1 * 7, none⟩) := hJ.val 13 (show 13 < 19 by decide) (by decide) (getD_upJ (hd ⟨13, .data⟩ (by simp) (by rfl)))
     subst d13
     refine wpOp_of_list (by rfl) ?_
     go_wp2
     exact HK.out _ _ ⟨_, _, _, _, _, _, _, _, _, _, _, _, _, _, _, _, _, _, _, rfl, hJ.up HOK.out 14 (by decide) (show 14 < 19 by decide) rfl⟩
    ·obtain rfl := Option.some.inj ho
     refine wpOp_of_list (by rfl) ?_
     go_wp2
     exact HK.out _ _ ⟨_, _, _, _, _, _, _, _, _, _, _, _, _, _, _, _, _, _, _, rfl, hJ.make HOK.out ⟨15, 17, 83, #[.string bm0, .int .i64 bs0, .int .i64 bc0, .int .i64 bk0, .slice ad0 dl0 dc0, .slice al0 ll0 lc0, .int .i64 mn0]⟩ (by simp) (show 15 < 19 by decide) hun #[.string ⟨#[]⟩, .int .i64 0, .int .i64 0, .int .i64 0, .slice none 0 0, .slice none 0 0, .int .i64 0] rfl rfl⟩
    ·obtain rfl := Option.some.inj ho
     refine wpOp_of_list (by rfl) ?_
     go_wp2
     exact HK.out _ _ ⟨_, _, _, _, _, _, _, _, _, _, _, _, _, _, _, _, _, _, _, rfl, hJ.make HOK.out ⟨16, 18, 83, #[.string bm1, .int .i64 bs1, .int .i64 bc1, .int .i64 bk1, .slice ad1 dl1 dc1, .slice al1 ll1 lc1, .int .i64 mn1]⟩ (by simp) (show 16 < 19 by decide) hun #[.string ⟨#[]⟩, .int .i64 0, .int .i64 0, .int .i64 0, .slice none 0 0, .slice none 0 0, .int .i64 0] rfl rfl⟩
    ·obtain rfl := Option.some.inj ho
     have d5 : x5 = (.agg #[.string bm0, .int .i64 bs0, .int .i64 bc0, .int .i64 bk0, .slice ad0 dl0 dc0, .slice al0 ll0 lc0, .int .i64 mn0]) := hJ.val 5 (show 5 < 19 by decide) (by decide) (getD_upJ (hd ⟨5, .data⟩ (by simp) (by rfl)))
     have hka := getD_upJ (hd ⟨15, .data⟩ (by simp) (by rfl))
     obtain ⟨gq, hs, hg, cs, hcs, hb, -⟩ := hJ.made ⟨15, 17, 83, #[.string bm0, .int .i64 bs0, .int .i64 bc0, .int .i64 bk0, .slice ad0 dl0 dc0, .slice al0 ll0 lc0, .int .i64 mn0]⟩ (by simp) hka
     have hs2 : x15 = .pointer (some ⟨gq, 0, none⟩) := hs
     obtain ⟨qa0, qh0⟩ : ∃ a, cs[0]? = some a := ⟨_, Array.getElem?_eq_getElem (by rw [hcs]; exact (show 0 < 7 by decide))⟩
     obtain ⟨qa1, qh1⟩ : ∃ a, cs[1]? = some a := ⟨_, Array.getElem?_eq_getElem (by rw [hcs]; exact (show 1 < 7 by decide))⟩
     obtain ⟨qa2, qh2⟩ : ∃ a, cs[2]? = some a := ⟨_, Array.getElem?_eq_getElem (by rw [hcs]; exact (show 2 < 7 by decide))⟩
     obtain ⟨qa3, qh3⟩ : ∃ a, cs[3]? = some a := ⟨_, Array.getElem?_eq_getElem (by rw [hcs]; exact (show 3 < 7 by decide))⟩
     obtain ⟨qa4, qh4⟩ : ∃ a, cs[4]? = some a := ⟨_, Array.getElem?_eq_getElem (by rw [hcs]; exact (show 4 < 7 by decide))⟩
     obtain ⟨qa5, qh5⟩ : ∃ a, cs[5]? = some a := ⟨_, Array.getElem?_eq_getElem (by rw [hcs]; exact (show 5 < 7 by decide))⟩
     obtain ⟨qa6, qh6⟩ : ∃ a, cs[6]? = some a := ⟨_, Array.getElem?_eq_getElem (by rw [hcs]; exact (show 6 < 7 by decide))⟩
     have qf0 : W.frozen? ⟨gq, 0, none⟩ = false := hb.frozen 0
     have qg0 : W.cell? ⟨gq, 0, none⟩ = some qa0 := (hb.cell 0).trans qh0
     have qf1 : W.frozen? ⟨gq, 1, none⟩ = false := hb.frozen 1
     have qg1 : W.cell? ⟨gq, 1, none⟩ = some qa1 := (hb.cell 1).trans qh1
     have qf2 : W.frozen? ⟨gq, 2, none⟩ = false := hb.frozen 2
     have qg2 : W.cell? ⟨gq, 2, none⟩ = some qa2 := (hb.cell 2).trans qh2
     have qf3 : W.frozen? ⟨gq, 3, none⟩ = false := hb.frozen 3
     have qg3 : W.cell? ⟨gq, 3, none⟩ = some qa3 := (hb.cell 3).trans qh3
     have qf4 : W.frozen? ⟨gq, 4, none⟩ = false := hb.frozen 4
     have qg4 : W.cell? ⟨gq, 4, none⟩ = some qa4 := (hb.cell 4).trans qh4
     have qf5 : W.frozen? ⟨gq, 5, none⟩ = false := hb.frozen 5
     have qg5 : W.cell? ⟨gq, 5, none⟩ = some qa5 := (hb.cell 5).trans qh5
     have qf6 : W.frozen? ⟨gq, 6, none⟩ = false := hb.frozen 6
     have qg6 : W.cell? ⟨gq, 6, none⟩ = some qa6 := (hb.cell 6).trans qh6
     subst d5
     subst hs2
     refine wpOp_of_list (by rfl) ?_
     go_wp2
     refine HK.out _ _ ⟨_, _, _, _, _, _, _, _, _, _, _, _, _, _, _, _, _, _, _, rfl, hJ.fill HOK.out ⟨15, 17, 83, #[.string bm0, .int .i64 bs0, .int .i64 bc0, .int .i64 bk0, .slice ad0 dl0 dc0, .slice al0 ll0 lc0, .int .i64 mn0]⟩ (by simp) hka hs hg (((((((hJ.below.setCell hg _).setCell hg _).setCell hg _).setCell hg _).setCell hg _).setCell hg _).setCell hg _) (fun k hk => by rw [Below.heap_setCell _ _ _ _ hk, Below.heap_setCell _ _ _ _ hk, Below.heap_setCell _ _ _ _ hk, Below.heap_setCell _ _ _ _ hk, Below.heap_setCell _ _ _ _ hk, Below.heap_setCell _ _ _ _ hk, Below.heap_setCell _ _ _ _ hk]) ?_⟩
     show Blk _ gq #[.string bm0, .int .i64 bs0, .int .i64 bc0, .int .i64 bk0, .slice ad0 dl0 dc0, .slice al0 ll0 lc0, .int .i64 mn0] _
     rw [← fill7 (a := .string bm0) (b := .int .i64 bs0) (c := .int .i64 bc0) (d := .int .i64 bk0) (e := .slice ad0 dl0 dc0) (f := .slice al0 ll0 lc0) (g := .int .i64 mn0) hcs]
     exact (((((((hb.set 0 _).set 1 _).set 2 _).set 3 _).set 4 _).set 5 _).set 6 _)
    ·obtain rfl := Option.some.inj ho
     have d14 : x14 = (.agg #[.string bm1, .int .i64 bs1, .int .i64 bc1, .int .i64 bk1, .slice ad1 dl1 dc1, .slice al1 ll1 lc1, .int .i64 mn1]) := hJ.val 14 (show 14 < 19 by decide) (by decide) (getD_upJ (hd ⟨14, .data⟩ (by simp) (by rfl)))
     have hka := getD_upJ (hd ⟨16, .data⟩ (by simp) (by rfl))
     obtain ⟨gq, hs, hg, cs, hcs, hb, -⟩ := hJ.made ⟨16, 18, 83, #[.string bm1, .int .i64 bs1, .int .i64 bc1, .int .i64 bk1, .slice ad1 dl1 dc1, .slice al1 ll1 lc1, .int .i64 mn1]⟩ (by simp) hka
     have hs2 : x16 = .pointer (some ⟨gq, 0, none⟩) := hs
     obtain ⟨qa0, qh0⟩ : ∃ a, cs[0]? = some a := ⟨_, Array.getElem?_eq_getElem (by rw [hcs]; exact (show 0 < 7 by decide))⟩
     obtain ⟨qa1, qh1⟩ : ∃ a, cs[1]? = some a := ⟨_, Array.getElem?_eq_getElem (by rw [hcs]; exact (show 1 < 7 by decide))⟩
     obtain ⟨qa2, qh2⟩ : ∃ a, cs[2]? = some a := ⟨_, Array.getElem?_eq_getElem (by rw [hcs]; exact (show 2 < 7 by decide))⟩
     obtain ⟨qa3, qh3⟩ : ∃ a, cs[3]? = some a := ⟨_, Array.getElem?_eq_getElem (by rw [hcs]; exact (show 3 < 7 by decide))⟩
     obtain ⟨qa4, qh4⟩ : ∃ a, cs[4]? = some a := ⟨_, Array.getElem?_eq_getElem (by rw [hcs]; exact (show 4 < 7 by decide))⟩
     obtain ⟨qa5, qh5⟩ : ∃ a, cs[5]? = some a := ⟨_, Array.getElem?_eq_getElem (by rw [hcs]; exact (show 5 < 7 by decide))⟩
     obtain ⟨qa6, qh6⟩ : ∃ a, cs[6]? = some a := ⟨_, Array.getElem?_eq_getElem (by rw [hcs]; exact (show 6 < 7 by decide))⟩
     have qf0 : W.frozen? ⟨gq, 0, none⟩ = false := hb.frozen 0
     have qg0 : W.cell? ⟨gq, 0, none⟩ = some qa0 := (hb.cell 0).trans qh0
     have qf1 : W.frozen? ⟨gq, 1, none⟩ = false := hb.frozen 1
     have qg1 : W.cell? ⟨gq, 1, none⟩ = some qa1 := (hb.cell 1).trans qh1
     have qf2 : W.frozen? ⟨gq, 2, none⟩ = false := hb.frozen 2
     have qg2 : W.cell? ⟨gq, 2, none⟩ = some qa2 := (hb.cell 2).trans qh2
     have qf3 : W.frozen? ⟨gq, 3, none⟩ = false := hb.frozen 3
     have qg3 : W.cell? ⟨gq, 3, none⟩ = some qa3 := (hb.cell 3).trans qh3
     have qf4 : W.frozen? ⟨gq, 4, none⟩ = false := hb.frozen 4
     have qg4 : W.cell? ⟨gq, 4, none⟩ = some qa4 := (hb.cell 4).trans qh4
     have qf5 : W.frozen? ⟨gq, 5, none⟩ = false := hb.frozen 5
     have qg5 : W.cell? ⟨gq, 5, none⟩ = some qa5 := (hb.cell 5).trans qh5
     have qf6 : W.frozen? ⟨gq, 6, none⟩ = false := hb.frozen 6
     have qg6 : W.cell? ⟨gq, 6, none⟩ = some qa6 := (hb.cell 6).trans qh6
     subst d14
     subst hs2
     refine wpOp_of_list (by rfl) ?_
     go_wp2
     refine HK.out _ _ ⟨_, _, _, _, _, _, _, _, _, _, _, _, _, _, _, _, _, _, _, rfl, hJ.fill HOK.out ⟨16, 18, 83, #[.string bm1, .int .i64 bs1, .int .i64 bc1, .int .i64 bk1, .slice ad1 dl1 dc1, .slice al1 ll1 lc1, .int .i64 mn1]⟩ (by simp) hka hs hg (((((((hJ.below.setCell hg _).setCell hg _).setCell hg _).setCell hg _).setCell hg _).setCell hg _).setCell hg _) (fun k hk => by rw [Below.heap_setCell _ _ _ _ hk, Below.heap_setCell _ _ _ _ hk, Below.heap_setCell _ _ _ _ hk, Below.heap_setCell _ _ _ _ hk, Below.heap_setCell _ _ _ _ hk, Below.heap_setCell _ _ _ _ hk, Below.heap_setCell _ _ _ _ hk]) ?_⟩
     show Blk _ gq #[.string bm1, .int .i64 bs1, .int .i64 bc1, .int .i64 bk1, .slice ad1 dl1 dc1, .slice al1 ll1 lc1, .int .i64 mn1] _
     rw [← fill7 (a := .string bm1) (b := .int .i64 bs1) (c := .int .i64 bc1) (d := .int .i64 bk1) (e := .slice ad1 dl1 dc1) (f := .slice al1 ll1 lc1) (g := .int .i64 mn1) hcs]
     exact (((((((hb.set 0 _).set 1 _).set 2 _).set 3 _).set 4 _).set 5 _).set 6 _)
   ·intro vs L W hlen hJ hall
    clear hok
    obtain ⟨x0, vs0, rfl, hlen0⟩ := len_cons hlen
    obtain ⟨x1, vs1, rfl, hlen1⟩ := len_cons hlen0
    obtain ⟨x2, vs2, rfl, hlen2⟩ := len_cons hlen1
    obtain ⟨x3, vs3, rfl, hlen3⟩ := len_cons hlen2
    obtain ⟨x4, vs4, rfl, hlen4⟩ := len_cons hlen3
    obtain ⟨x5, vs5, rfl, hlen5⟩ := len_cons hlen4
    obtain ⟨x6, vs6, rfl, hlen6⟩ := len_cons hlen5
    obtain ⟨x7, vs7, rfl, hlen7⟩ := len_cons hlen6
    obtain ⟨x8, vs8, rfl, hlen8⟩ := len_cons hlen7
    obtain ⟨x9, vs9, rfl, hlen9⟩ := len_cons hlen8
    obtain ⟨x10, vs10, rfl, hlen10⟩ := len_cons hlen9
    obtain ⟨x11, vs11, rfl, hlen11⟩ := len_cons hlen10
    obtain ⟨x12, vs12, rfl, hlen12⟩ := len_cons hlen11
    obtain ⟨x13, vs13, rfl, hlen13⟩ := len_cons hlen12
    obtain ⟨x14, vs14, rfl, hlen14⟩ := len_cons hlen13
    obtain ⟨x15, vs15, rfl, hlen15⟩ := len_cons hlen14
    obtain ⟨x16, vs16, rfl, hlen16⟩ := len_cons hlen15
    obtain ⟨x17, vs17, rfl, hlen17⟩ := len_cons hlen16
    obtain ⟨x18, vs18, rfl, hlen18⟩ := len_cons hlen17
    obtain rfl := len_nil hlen18
    clear hlen hlen0 hlen1 hlen2 hlen3 hlen4 hlen5 hlen6 hlen7 hlen8 hlen9 hlen10 hlen11 hlen12 hlen13 hlen14 hlen15 hlen16 hlen17 hlen18
    obtain ⟨g0, hs0, hg0, cs0, -, hk0, hc0⟩ := hJ.made ⟨15, 17, 83, #[.string bm0, .int .i64 bs0, .int .i64 bc0, .int .i64 bk0, .slice ad0 dl0 dc0, .slice al0 ll0 lc0, .int .i64 mn0]⟩ (by simp) (hall 15 (of_decide_eq_true (by kernel_rfl)))
    obtain rfl : cs0 = #[.string bm0, .int .i64 bs0, .int .i64 bc0, .int .i64 bk0, .slice ad0 dl0 dc0, .slice al0 ll0 lc0, .int .i64 mn0] := hc0 (hall 17 (of_decide_eq_true (by kernel_rfl)))
    obtain ⟨g1, hs1, hg1, cs1, -, hk1, hc1⟩ := hJ.made ⟨16, 18, 83, #[.string bm1, .int .i64 bs1, .int .i64 bc1, .int .i64 bk1, .slice ad1 dl1 dc1, .slice al1 ll1 lc1, .int .i64 mn1]⟩ (by simp) (hall 16 (of_decide_eq_true (by kernel_rfl)))
    obtain rfl : cs1 = #[.string bm1, .int .i64 bs1, .int .i64 bc1, .int .i64 bk1, .slice ad1 dl1 dc1, .slice al1 ll1 lc1, .int .i64 mn1] := hc1 (hall 18 (of_decide_eq_true (by kernel_rfl)))
    have d0 : x0 = .slice (some ⟨br, orr, none⟩) (rodsI x).length rc := hJ.val 0 (show 0 < 19 by decide) (by decide) (hall 0 (of_decide_eq_true (by kernel_rfl)))
    have d1 : x1 = .slice (some ⟨bb, ob, none⟩) (m + 1) cb := hJ.val 1 (show 1 < 19 by decide) (by decide) (hall 1 (of_decide_eq_true (by kernel_rfl)))
    have d2 : x2 = .pointer (some ⟨bb, ob, none⟩) := hJ.val 2 (show 2 < 19 by decide) (by decide) (hall 2 (of_decide_eq_true (by kernel_rfl)))
    have d3 : x3 = .int .i64 (k0 : Int) := hJ.val 3 (show 3 < 19 by decide) (by decide) (hall 3 (of_decide_eq_true (by kernel_rfl)))
    have d4 : x4 = .pointer (some ⟨br, orr + k0 * 7, none⟩) := hJ.val 4 (show 4 < 19 by decide) (by decide) (hall 4 (of_decide_eq_true (by kernel_rfl)))
    have d5 : x5 = (.agg #[.string bm0, .int .i64 bs0, .int .i64 bc0, .int .i64 bk0, .slice ad0 dl0 dc0, .slice al0 ll0 lc0, .int .i64 mn0]) := hJ.val 5 (show 5 < 19 by decide) (by decide) (hall 5 (of_decide_eq_true (by kernel_rfl)))
    have d6 : x6 = .slice (some ⟨br, orr, none⟩) (rodsI x).length rc := hJ.val 6 (show 6 < 19 by decide) (by decide) (hall 6 (of_decide_eq_true (by kernel_rfl)))
    have d7 : x7 = .slice (some ⟨bb, ob, none⟩) (m + 1) cb := hJ.val 7 (show 7 < 19 by decide) (by decide) (hall 7 (of_decide_eq_true (by kernel_rfl)))
    have d8 : x8 = .slice (some ⟨bb, ob, none⟩) (m + 1) cb := hJ.val 8 (show 8 < 19 by decide) (by decide) (hall 8 (of_decide_eq_true (by kernel_rfl)))
    have d9 : x9 = .int .i64 ((m : Int) + 1) := hJ.val 9 (show 9 < 19 by decide) (by decide) (hall 9 (of_decide_eq_true (by kernel_rfl)))
    have d10 : x10 = .int .i64 (m : Int) := hJ.val 10 (show 10 < 19 by decide) (by decide) (hall 10 (of_decide_eq_true (by kernel_rfl)))
    have d11 : x11 = .pointer (some ⟨bb, ob + m, none⟩) := hJ.val 11 (show 11 < 19 by decide) (by decide) (hall 11 (of_decide_eq_true (by kernel_rfl)))
    have d12 : x12 = .int .i64 (k1 : Int) := hJ.val 12 (show 12 < 19 by decide) (by decide) (hall 12 (of_decide_eq_true (by kernel_rfl)))
    have d13 : x13 = .pointer (some ⟨br, orr + k1 * 7, none⟩) := hJ.val 13 (show 13 < 19 by decide) (by decide) (hall 13 (of_decide_eq_true (by kernel_rfl)))
    have d14 : x14 = (.agg #[.string bm1, .int .i64 bs1, .int .i64 bc1, .int .i64 bk1, .slice ad1 dl1 dc1, .slice al1 ll1 lc1, .int .i64 mn1]) := hJ.val 14 (show 14 < 19 by decide) (by decide) (hall 14 (of_decide_eq_true (by kernel_rfl)))
    have e0 : x15 = .pointer (some ⟨g0, 0, none⟩) := hs0
    have e1 : x16 = .pointer (some ⟨g1, 0, none⟩) := hs1
    have hne01 : g0 ≠ g1 := fun e => hJ.diff ⟨15, 17, 83, #[.string bm0, .int .i64 bs0, .int .i64 bc0, .int .i64 bk0, .slice ad0 dl0 dc0, .slice al0 ll0 lc0, .int .i64 mn0]⟩ (by simp) ⟨16, 18, 83, #[.string bm1, .int .i64 bs1, .int .i64 bc1, .int .i64 bk1, .slice ad1 dl1 dc1, .slice al1 ll1 lc1, .int .i64 mn1]⟩ (by simp) (show 15 ≠ 16 by decide) (hall 15 (of_decide_eq_true (by kernel_rfl))) (hall 16 (of_decide_eq_true (by kernel_rfl))) (hs0.trans (by rw [e]; exact hs1.symm))
    have hbel := hJ.below
    clear hJ hall hs0 hs1 hc0 hc1
    subst d0 d1 d2 d3 d4 d5 d6 d7 d8 d9 d10 d11 d12 d13 d14 e0 e1
    simp only [putAll_cons, putAll_nil, put_some, put_none, List.setIfInBounds_toArray, List.set_cons_succ, List.set_cons_zero]
    have HB6 := hd0 hbel
    have HM0 := hd0 hk0
    have HM1 := hd0 hk1
    have HBX := hd0 (HB15.out.trans (Below.mono hbel HB15.out.size))
    have HK11 := hd0 (HK5.out.below hbel)
    have HB36 := hd0 (HB5.out.trans (Below.mono hbel HB5.out.size))
    have z06 := hk0.cell 6
    have z16 := hk1.cell 6
    clear hk0 hk1 hbel hne01 HZ5 HZ6 HZ7 HD0 HD1 HB5 HK5 HB15 HB6
    cases e0 : mainI x.l x.rs i0 with
    | none =>
      have d1 : decide (0 ≤ mn0) = false := by have := HN0.out (by rw [← HEI.out.2.2.1]; exact e0); simp; omega
      have HE0 := hd0 e0
      clear e0
      go_upto_region 29 with fail
      clear z06 z16
      have HRW2 := hd0 (own_grows HROW.out HB36.out)
      have hsz2 : W1.heap.size ≤ W3.heap.size := HCB.out.size
      have hsz3 := HB36.out.size
      go_wp2_with (first | (refine wpList_load_row rfl _ _ rfl _ rfl _ _ _ _ HK11.out rfl rfl rfl ?_) | (at_builtin; refine app_own_b rfl _ _ 74 rfl 79 (.agg #[.slice none 0 0, .int .i64 0, .int .i64 0, .bool false, .int .i64 0]) 5 56 Tryz.underlying74 info_ch rfl (by decide) W1.heap.size (.slice av LC.length cv) LC.length (chCells P) _ rfl (HRW2.out.alloc _) _ 1 1 (ch1 ⟨C, 0, 0, false, areaC x C⟩ (.slice (some ⟨bb, ob, none⟩) (m + 1) cb)) rfl rfl (cells_new ?_ _ _ _ rfl) (by simp [ch1, Value.oneCell']) (by have := HTL.out; omega) (by decide) ?_ ?_; (first | rfl | simp [size_ext]); (simp only [World.size_alloc]; omega); intro v' w1 hown' hgrow; have HO2 := hd0 hown'; obtain ⟨a', c', rfl, -, hc2, -⟩ := own_shape hown'; have hc3 : c' ≤ 9223372036854775807 := hc2; have HGR := hd0 hgrow; clear hown' hgrow hc2))
      go_roundw
      case rel => exact ⟨k + 1, by omega, by go_num, rfl, by rw [HCI.out, HLE.out, HCI2.out, show spanI x i0 i1 = none by unfold spanI; rw [HE0.out]]; exact ChO.app (grow_alloc _ (HCB.out.trans (Below.mono HB36.out HCB.out.size))) HP.out (HRW2.out.alloc _) HIN.out HU.out HO2.out HGR.out⟩
      case measure => simp [intOf]; omega
    | some gb =>
      obtain ⟨q0, hq0, el0, em0, hc0⟩ := HS0.out gb (by rw [← HEI.out.2.2.1]; exact e0)
      have d1 : decide (0 ≤ mn0) = true := by simp; omega
      have HE0 := hd0 e0
      clear e0
      cases e1 : mainI x.l x.rs i1 with
      | none =>
        have d2 : decide (0 ≤ mn1) = false := by have := HN1'.out (by rw [← HEI.out.2.2.2]; exact e1); simp; omega
        have HE1 := hd0 e1
        clear e1 el0 em0 hc0
        go_upto_region 29 with fail
        clear z06 z16
        have HRW2 := hd0 (own_grows HROW.out HB36.out)
        have hsz2 : W1.heap.size ≤ W3.heap.size := HCB.out.size
        have hsz3 := HB36.out.size
        go_wp2_with (first | (refine wpList_load_row rfl _ _ rfl _ rfl _ _ _ _ HK11.out rfl rfl rfl ?_) | (at_builtin; refine app_own_b rfl _ _ 74 rfl 79 (.agg #[.slice none 0 0, .int .i64 0, .int .i64 0, .bool false, .int .i64 0]) 5 56 Tryz.underlying74 info_ch rfl (by decide) W1.heap.size (.slice av LC.length cv) LC.length (chCells P) _ rfl (HRW2.out.alloc _) _ 1 1 (ch1 ⟨C, 0, 0, false, areaC x C⟩ (.slice (some ⟨bb, ob, none⟩) (m + 1) cb)) rfl rfl (cells_new ?_ _ _ _ rfl) (by simp [ch1, Value.oneCell']) (by have := HTL.out; omega) (by decide) ?_ ?_; (first | rfl | simp [size_ext]); (simp only [World.size_alloc]; omega); intro v' w1 hown' hgrow; have HO2 := hd0 hown'; obtain ⟨a', c', rfl, -, hc2, -⟩ := own_shape hown'; have hc3 : c' ≤ 9223372036854775807 := hc2; have HGR := hd0 hgrow; clear hown' hgrow hc2))
        go_roundw
        case rel => exact ⟨k + 1, by omega, by go_num, rfl, by rw [HCI.out, HLE.out, HCI2.out, show spanI x i0 i1 = none by unfold spanI; rw [HE0.out, HE1.out]]; exact ChO.app (grow_alloc _ (HCB.out.trans (Below.mono HB36.out HCB.out.size))) HP.out (HRW2.out.alloc _) HIN.out HU.out HO2.out HGR.out⟩
        case measure => simp [intOf]; omega
      | some zb =>
        obtain ⟨q1, hq1, el1, em1, hc1⟩ := HS1.out zb (by rw [← HEI.out.2.2.2]; exact e1)
        have d2 : decide (0 ≤ mn1) = true := by simp; omega
        have HE1 := hd0 e1
        have HF0 := hd0 hc0
        have HF1 := hd0 hc1
        have hr0 := HCK.out.one _ (head_mem HCK.out.ne)
        have hr1 := HCK.out.one _ (last_mem HCK.out.ne)
        rw [HEI.out.1] at hr0
        rw [HEI.out.2.1] at hr1
        obtain ⟨⟨n1, n2⟩, -⟩ := endA_nonneg x HV.out hr0.1 hr0.2 gb
        obtain ⟨-, n3, n4⟩ := endA_nonneg x HV.out hr1.1 hr1.2 zb
        have v1 := valid_iff.1 (mainI_valid x HV.out hr0.1 hr0.2 HE0.out).2
        have v2 := valid_iff.1 (mainI_valid x HV.out hr1.1 hr1.2 HE1.out).2
        have vx1 : -1048576 ≤ gb.lx ∧ gb.lx ≤ 1048576 := by omega
        have vx2 : -1048576 ≤ zb.hx ∧ zb.hx ≤ 1048576 := by omega
        rw [← HEI.out.2.2.1] at HF0
        rw [← HEI.out.2.2.2] at HF1
        obtain ⟨⟨lw, up0⟩, hA0⟩ : ∃ p, endA x i0 gb = p := ⟨_, rfl⟩
        obtain ⟨⟨lw1, up⟩, hA1⟩ : ∃ p, endA x i1 zb = p := ⟨_, rfl⟩
        rw [hA0] at n1 n2 HF0
        rw [hA1] at n3 n4 HF1
        simp only at n1 n2 n3 n4 HF0 HF1
        have HSP := hd0 (show spanI x i0 i1 = if gb.lx + lw < zb.hx - up then some (gb.lx + lw, zb.hx - up) else none by unfold spanI; rw [HE0.out, HE1.out]; simp only [hA0, hA1])
        have HV12 := hd0 (And.intro n1 (And.intro n2 (And.intro n3 (And.intro n4 (And.intro vx1 vx2)))))
        have HLEG0 := hd0 (fun (W : World) hu => rodLeg_c ⟨⟨bm0, bs0, bc0, bk0, bd0, .slice ad0 dl0 dc0⟩, lg0, mn0⟩ (.slice al0 ll0 lc0) q0 hq0 em0 ⟨_, _, _, rfl⟩ W hu)
        have HLEG1 := hd0 (fun (W : World) hu => rodLeg_c ⟨⟨bm1, bs1, bc1, bk1, bd1, .slice ad1 dl1 dc1⟩, lg1, mn1⟩ (.slice al1 ll1 lc1) q1 hq1 em1 ⟨_, _, _, rfl⟩ W hu)
        simp only at HLEG0 HLEG1
        simp only [el0] at HLEG0
        simp only [el1] at HLEG1
        clear e1 hc0 hc1 hr0 hr1 n1 n2 n3 n4 v1 v2 vx1 vx2 hA0 hA1 el0 el1 em0 em1
        have kd := HJ1.out.dt.below HBX.out
        have b0 : W.cell? ⟨w.heap.size, 0, none⟩ = some (.string x.q.name) := kd.cell 0
        have b1 : W.cell? ⟨w.heap.size, 1, none⟩ = some (x.q.u) := kd.cell 1
        have b2 : W.cell? ⟨w.heap.size, 2, none⟩ = some (x.q.t) := kd.cell 2
        have b3 : W.cell? ⟨w.heap.size, 3, none⟩ = some (.int .i64 x.q.cover) := kd.cell 3
        have b4 : W.cell? ⟨w.heap.size, 4, none⟩ = some (.int .i64 x.q.agg) := kd.cell 4
        have b5 : W.cell? ⟨w.heap.size, 5, none⟩ = some (.int .i64 x.q.poker) := kd.cell 5
        have b10 : W.cell? ⟨w.heap.size, 10, none⟩ = some (.int .i64 x.ru.num) := kd.cell 10
        have b11 : W.cell? ⟨w.heap.size, 11, none⟩ = some (.int .i64 x.ru.den) := kd.cell 11
        have b12 : W.cell? ⟨w.heap.size, 12, none⟩ = some (.int .i64 x.ru.pn) := kd.cell 12
        have b13 : W.cell? ⟨w.heap.size, 13, none⟩ = some (.int .i64 x.ru.pd) := kd.cell 13
        have b14 : W.cell? ⟨w.heap.size, 14, none⟩ = some (.int .i64 x.ru.bn) := kd.cell 14
        have b15 : W.cell? ⟨w.heap.size, 15, none⟩ = some (.int .i64 x.ru.bd) := kd.cell 15
        have b16 : W.cell? ⟨w.heap.size, 16, none⟩ = some (.int .i64 x.ru.ln) := kd.cell 16
        have b17 : W.cell? ⟨w.heap.size, 17, none⟩ = some (.int .i64 x.ru.ld) := kd.cell 17
        have b18 : W.cell? ⟨w.heap.size, 18, none⟩ = some (.int .i64 x.ru.least) := kd.cell 18
        clear kd
        have r0 : W.cell? ⟨g0, 0, none⟩ = some (.string bm0) := HM0.out.cell 0
        have r1 : W.cell? ⟨g0, 1, none⟩ = some (.int .i64 bs0) := HM0.out.cell 1
        have r2 : W.cell? ⟨g0, 2, none⟩ = some (.int .i64 bc0) := HM0.out.cell 2
        have r3 : W.cell? ⟨g0, 3, none⟩ = some (.int .i64 bk0) := HM0.out.cell 3
        have r4 : W.cell? ⟨g0, 4, none⟩ = some (.slice ad0 dl0 dc0) := HM0.out.cell 4
        have r5 : W.cell? ⟨g0, 5, none⟩ = some (.slice al0 ll0 lc0) := HM0.out.cell 5
        go_upto_region 23 with (go_at_call 169; refine (HF0.out _ _ (HX.out.q.below (HJ1.out.below.trans (Below.mono HBX.out HJ1.out.below.size))) (HBR0.out.below (HJ1.out.below.trans (Below.mono HBX.out HJ1.out.below.size))) (HL0.out.below HBX.out)).mono ?_; rintro e w' ⟨rfl, y3, rfl⟩)
        refine world_mask (fun W => Below W3.heap.size W3 W ∧ Blk W g11 #[.slice (some ⟨bb, ob, none⟩) (m + 1) cb, .int .i64 0, .int .i64 0, .bool false, .int .i64 (areaC x C)] 79 ∧ Blk W g0 #[.string bm0, .int .i64 bs0, .int .i64 bc0, .int .i64 bk0, .slice ad0 dl0 dc0, .slice al0 ll0 lc0, .int .i64 mn0] 83 ∧ Blk W g1 #[.string bm1, .int .i64 bs1, .int .i64 bc1, .int .i64 bk1, .slice ad1 dl1 dc1, .slice al1 ll1 lc1, .int .i64 mn1] 83) _ ⟨grob HB36.out, HK11.out.below gro, HM0.out.below gro, HM1.out.below gro⟩ ?_
        clear b0 b1 b2 b3 b4 b5 b10 b11 b12 b13 b14 b15 b16 b17 b18 r0 r1 r2 r3 r4 r5 z06 z16 HB36 HK11 HM0 HM1 HBX
        rintro W7 ⟨hb7, k11, k0', k1'⟩
        have HB7 := hd0 hb7
        have HBX7 := hd0 (HCB.out.trans (Below.mono hb7 HCB.out.size))
        have HK11 := hd0 k11
        have HM0 := hd0 k0'
        have HM1 := hd0 k1'
        clear hb7 k11 k0' k1'
        have kd := HJ1.out.dt.below HBX7.out
        have b0 : W7.cell? ⟨w.heap.size, 0, none⟩ = some (.string x.q.name) := kd.cell 0
        have b1 : W7.cell? ⟨w.heap.size, 1, none⟩ = some (x.q.u) := kd.cell 1
        have b2 : W7.cell? ⟨w.heap.size, 2, none⟩ = some (x.q.t) := kd.cell 2
        have b3 : W7.cell? ⟨w.heap.size, 3, none⟩ = some (.int .i64 x.q.cover) := kd.cell 3
        have b4 : W7.cell? ⟨w.heap.size, 4, none⟩ = some (.int .i64 x.q.agg) := kd.cell 4
        have b5 : W7.cell? ⟨w.heap.size, 5, none⟩ = some (.int .i64 x.q.poker) := kd.cell 5
        have b10 : W7.cell? ⟨w.heap.size, 10, none⟩ = some (.int .i64 x.ru.num) := kd.cell 10
        have b11 : W7.cell? ⟨w.heap.size, 11, none⟩ = some (.int .i64 x.ru.den) := kd.cell 11
        have b12 : W7.cell? ⟨w.heap.size, 12, none⟩ = some (.int .i64 x.ru.pn) := kd.cell 12
        have b13 : W7.cell? ⟨w.heap.size, 13, none⟩ = some (.int .i64 x.ru.pd) := kd.cell 13
        have b14 : W7.cell? ⟨w.heap.size, 14, none⟩ = some (.int .i64 x.ru.bn) := kd.cell 14
        have b15 : W7.cell? ⟨w.heap.size, 15, none⟩ = some (.int .i64 x.ru.bd) := kd.cell 15
        have b16 : W7.cell? ⟨w.heap.size, 16, none⟩ = some (.int .i64 x.ru.ln) := kd.cell 16
        have b17 : W7.cell? ⟨w.heap.size, 17, none⟩ = some (.int .i64 x.ru.ld) := kd.cell 17
        have b18 : W7.cell? ⟨w.heap.size, 18, none⟩ = some (.int .i64 x.ru.least) := kd.cell 18
        clear kd
        have r0 : W7.cell? ⟨g1, 0, none⟩ = some (.string bm1) := HM1.out.cell 0
        have r1 : W7.cell? ⟨g1, 1, none⟩ = some (.int .i64 bs1) := HM1.out.cell 1
        have r2 : W7.cell? ⟨g1, 2, none⟩ = some (.int .i64 bc1) := HM1.out.cell 2
        have r3 : W7.cell? ⟨g1, 3, none⟩ = some (.int .i64 bk1) := HM1.out.cell 3
        have r4 : W7.cell? ⟨g1, 4, none⟩ = some (.slice ad1 dl1 dc1) := HM1.out.cell 4
        have r5 : W7.cell? ⟨g1, 5, none⟩ = some (.slice al1 ll1 lc1) := HM1.out.cell 5
        go_upto_region 26 with (go_at_call 169; refine (HF1.out _ _ (HX.out.q.below (HJ1.out.below.trans (Below.mono HBX7.out HJ1.out.below.size))) (HBR1.out.below (HJ1.out.below.trans (Below.mono HBX7.out HJ1.out.below.size))) (HL1.out.below HBX7.out)).mono ?_; rintro e w' ⟨rfl, y4, rfl⟩)
        refine world_mask (fun W => Below W3.heap.size W3 W ∧ Blk W g11 #[.slice (some ⟨bb, ob, none⟩) (m + 1) cb, .int .i64 0, .int .i64 0, .bool false, .int .i64 (areaC x C)] 79 ∧ Blk W g0 #[.string bm0, .int .i64 bs0, .int .i64 bc0, .int .i64 bk0, .slice ad0 dl0 dc0, .slice al0 ll0 lc0, .int .i64 mn0] 83 ∧ Blk W g1 #[.string bm1, .int .i64 bs1, .int .i64 bc1, .int .i64 bk1, .slice ad1 dl1 dc1, .slice al1 ll1 lc1, .int .i64 mn1] 83) _ ⟨grob HB7.out, HK11.out.below gro, HM0.out.below gro, HM1.out.below gro⟩ ?_
        clear b0 b1 b2 b3 b4 b5 b10 b11 b12 b13 b14 b15 b16 b17 b18 r0 r1 r2 r3 r4 r5 HB7 HK11 HM0 HM1 HBX7
        rintro W8 ⟨hb8, k11, k0', k1'⟩
        have HB8 := hd0 hb8
        have HBX8 := hd0 (HCB.out.trans (Below.mono hb8 HCB.out.size))
        have HK11 := hd0 k11
        have HM0 := hd0 k0'
        have HM1 := hd0 k1'
        clear hb8 k11 k0' k1'
        obtain ⟨n1, n2, n3, n4, vx1, vx2⟩ := HV12.out
        refine wp_region_J [(.agg #[.string bm0, .int .i64 bs0, .int .i64 bc0, .int .i64 bk0, .slice ad0 dl0 dc0, .slice al0 ll0 lc0, .int .i64 mn0]), (Value.agg #[.int .i64 gb.lx, .int .i64 gb.ly, .int .i64 gb.lz, .int .i64 gb.hx, .int .i64 gb.hy, .int .i64 gb.hz]), (Value.agg #[.int .i64 gb.lx, .int .i64 gb.ly, .int .i64 gb.lz]), .int .i64 gb.lx, .int .i64 lw, .int .i64 (gb.lx + lw), (.agg #[.string bm1, .int .i64 bs1, .int .i64 bc1, .int .i64 bk1, .slice ad1 dl1 dc1, .slice al1 ll1 lc1, .int .i64 mn1]), (Value.agg #[.int .i64 zb.lx, .int .i64 zb.ly, .int .i64 zb.lz, .int .i64 zb.hx, .int .i64 zb.hy, .int .i64 zb.hz]), (Value.agg #[.int .i64 zb.hx, .int .i64 zb.hy, .int .i64 zb.hz]), .int .i64 zb.hx, .int .i64 up, .int .i64 (zb.hx - up), (.agg #[.int .i64 (gb.lx + lw), .int .i64 (zb.hx - up)]), undef, undef] 13 14 60 #[.int .i64 (gb.lx + lw), .int .i64 (zb.hx - up)] (by kernel_rfl) (by kernel_rfl) (of_decide_eq_true (by kernel_rfl)) (of_decide_eq_true (by kernel_rfl)) ?_ ?_
        ·intro L vs W i hlen hJ hi
         obtain ⟨x0, vs0, rfl, hlen0⟩ := len_cons hlen
         obtain ⟨x1, vs1, rfl, hlen1⟩ := len_cons hlen0
         obtain ⟨x2, vs2, rfl, hlen2⟩ := len_cons hlen1
         obtain ⟨x3, vs3, rfl, hlen3⟩ := len_cons hlen2
         obtain ⟨x4, vs4, rfl, hlen4⟩ := len_cons hlen3
         obtain ⟨x5, vs5, rfl, hlen5⟩ := len_cons hlen4
         obtain ⟨x6, vs6, rfl, hlen6⟩ := len_cons hlen5
         obtain ⟨x7, vs7, rfl, hlen7⟩ := len_cons hlen6
         obtain ⟨x8, vs8, rfl, hlen8⟩ := len_cons hlen7
         obtain ⟨x9, vs9, rfl, hlen9⟩ := len_cons hlen8
         obtain ⟨x10, vs10, rfl, hlen10⟩ := len_cons hlen9
         obtain ⟨x11, vs11, rfl, hlen11⟩ := len_cons hlen10
         obtain ⟨x12, vs12, rfl, hlen12⟩ := len_cons hlen11
         obtain ⟨x13, vs13, rfl, hlen13⟩ := len_cons hlen12
         obtain ⟨x14, vs14, rfl, hlen14⟩ := len_cons hlen13
         obtain rfl := len_nil hlen14
         clear hlen hlen0 hlen1 hlen2 hlen3 hlen4 hlen5 hlen6 hlen7 hlen8 hlen9 hlen10 hlen11 hlen12 hlen13 hlen14
         obtain ⟨hun, o, ho, hd⟩ := mem_ready.1 hi
         have hin : i < 15 := by have := (Array.getElem?_eq_some_iff.1 ho).1; simpa using this
         refine wpOp_free (B := fun a' W' => ∃ x0 x1 x2 x3 x4 x5 x6 x7 x8 x9 x10 x11 x12 x13 x14, a' = putAll _ [x0, x1, x2, x3, x4, x5, x6, x7, x8, x9, x10, x11, x12, x13, x14] _ ∧ InvJ _ _ _ _ _ _ [x0, x1, x2, x3, x4, x5, x6, x7, x8, x9, x10, x11, x12, x13, x14] (L.setIfInBounds i true) W') (fun _ _ h => by obtain ⟨x0, x1, x2, x3, x4, x5, x6, x7, x8, x9, x10, x11, x12, x13, x14, h1, h2⟩ := h; exact ⟨[x0, x1, x2, x3, x4, x5, x6, x7, x8, x9, x10, x11, x12, x13, x14], rfl, h1, h2⟩) ?_
         intro K HK
         simp only [putAll_cons, putAll_nil, put_some, put_none, List.setIfInBounds_toArray, List.set_cons_succ, List.set_cons_zero] at HK ⊢
         have m0 := HM0.out.below hJ.below
         have m1 := HM1.out.below hJ.below
         have a0 : W.cell? ⟨g0, 0, none⟩ = some (.string bm0) := m0.cell 0
         have a1 : W.cell? ⟨g0, 1, none⟩ = some (.int .i64 bs0) := m0.cell 1
         have a2 : W.cell? ⟨g0, 2, none⟩ = some (.int .i64 bc0) := m0.cell 2
         have a3 : W.cell? ⟨g0, 3, none⟩ = some (.int .i64 bk0) := m0.cell 3
         have a4 : W.cell? ⟨g0, 4, none⟩ = some (.slice ad0 dl0 dc0) := m0.cell 4
         have a5 : W.cell? ⟨g0, 5, none⟩ = some (.slice al0 ll0 lc0) := m0.cell 5
         have a6 : W.cell? ⟨g0, 6, none⟩ = some (.int .i64 mn0) := m0.cell 6
         have c0 : W.cell? ⟨g1, 0, none⟩ = some (.string bm1) := m1.cell 0
         have c1 : W.cell? ⟨g1, 1, none⟩ = some (.int .i64 bs1) := m1.cell 1
         have c2 : W.cell? ⟨g1, 2, none⟩ = some (.int .i64 bc1) := m1.cell 2
         have c3 : W.cell? ⟨g1, 3, none⟩ = some (.int .i64 bk1) := m1.cell 3
         have c4 : W.cell? ⟨g1, 4, none⟩ = some (.slice ad1 dl1 dc1) := m1.cell 4
         have c5 : W.cell? ⟨g1, 5, none⟩ = some (.slice al1 ll1 lc1) := m1.cell 5
         have c6 : W.cell? ⟨g1, 6, none⟩ = some (.int .i64 mn1) := m1.cell 6
         clear m0 m1
         rcases (show i = 0 ∨ i = 1 ∨ i = 2 ∨ i = 3 ∨ i = 4 ∨ i = 5 ∨ i = 6 ∨ i = 7 ∨ i = 8 ∨ i = 9 ∨ i = 10 ∨ i = 11 ∨ i = 12 ∨ i = 13 ∨ i = 14 by omega) with rfl | rfl | rfl | rfl | rfl | rfl | rfl | rfl | rfl | rfl | rfl | rfl | rfl | rfl | rfl
         ·obtain rfl := Option.some.inj ho
          refine wpOp_of_list (by rfl) ?_
          go_wp2
          exact HK.out _ _ ⟨_, _, _, _, _, _, _, _, _, _, _, _, _, _, _, rfl, hJ.up 0 (by decide) (by decide) (show 0 < 15 by decide) rfl⟩
         ·obtain rfl := Option.some.inj ho
          have d0 : x0 = (.agg #[.string bm0, .int .i64 bs0, .int .i64 bc0, .int .i64 bk0, .slice ad0 dl0 dc0, .slice al0 ll0 lc0, .int .i64 mn0]) := hJ.val 0 (show 0 < 15 by decide) (by decide) (by decide) (getD_upJ (hd ⟨0, .data⟩ (by simp) (by rfl)))
          subst d0
          refine wpOp_of_list (by rfl) ?_
          have HLC := hd0 (HLEG0.out W ((HL0.out.below HBX8.out).below hJ.below))
          go_wp2_with fail
          go_at_call 25; refine (HLC.out).mono ?_; rintro e w' ⟨rfl, xq, rfl⟩
          go_wp2
          exact HK.out _ _ ⟨_, _, _, _, _, _, _, _, _, _, _, _, _, _, _, rfl, (hJ.grow _).up 1 (by decide) (by decide) (show 1 < 15 by decide) rfl⟩
         ·obtain rfl := Option.some.inj ho
          have d1 : x1 = (Value.agg #[.int .i64 gb.lx, .int .i64 gb.ly, .int .i64 gb.lz, .int .i64 gb.hx, .int .i64 gb.hy, .int .i64 gb.hz]) := hJ.val 1 (show 1 < 15 by decide) (by decide) (by decide) (getD_upJ (hd ⟨1, .data⟩ (by simp) (by rfl)))
          subst d1
          refine wpOp_of_list (by rfl) ?_
          go_wp2
          exact HK.out _ _ ⟨_, _, _, _, _, _, _, _, _, _, _, _, _, _, _, rfl, hJ.up 2 (by decide) (by decide) (show 2 < 15 by decide) rfl⟩
         ·obtain rfl := Option.some.inj ho
          have d2 : x2 = (Value.agg #[.int .i64 gb.lx, .int .i64 gb.ly, .int .i64 gb.lz]) := hJ.val 2 (show 2 < 15 by decide) (by decide) (by decide) (getD_upJ (hd ⟨2, .data⟩ (by simp) (by rfl)))
          subst d2
          refine wpOp_of_list (by rfl) ?_
          go_wp2
          exact HK.out _ _ ⟨_, _, _, _, _, _, _, _, _, _, _, _, _, _, _, rfl, hJ.up 3 (by decide) (by decide) (show 3 < 15 by decide) rfl⟩
         ·obtain rfl := Option.some.inj ho
          refine wpOp_of_list (by rfl) ?_
          go_wp2
          exact HK.out _ _ ⟨_, _, _, _, _, _, _, _, _, _, _, _, _, _, _, rfl, hJ.up 4 (by decide) (by decide) (show 4 < 15 by decide) rfl⟩
         ·obtain rfl := Option.some.inj ho
          have d3 : x3 = .int .i64 gb.lx := hJ.val 3 (show 3 < 15 by decide) (by decide) (by decide) (getD_upJ (hd ⟨3, .data⟩ (by simp) (by rfl)))
          have d4 : x4 = .int .i64 lw := hJ.val 4 (show 4 < 15 by decide) (by decide) (by decide) (getD_upJ (hd ⟨4, .data⟩ (by simp) (by rfl)))
          subst d3 d4
          refine wpOp_of_list (by rfl) ?_
          go_wp2
          exact HK.out _ _ ⟨_, _, _, _, _, _, _, _, _, _, _, _, _, _, _, rfl, hJ.up 5 (by decide) (by decide) (show 5 < 15 by decide) rfl⟩
         ·obtain rfl := Option.some.inj ho
          refine wpOp_of_list (by rfl) ?_
          go_wp2
          exact HK.out _ _ ⟨_, _, _, _, _, _, _, _, _, _, _, _, _, _, _, rfl, hJ.up 6 (by decide) (by decide) (show 6 < 15 by decide) rfl⟩
         ·obtain rfl := Option.some.inj ho
          have d6 : x6 = (.agg #[.string bm1, .int .i64 bs1, .int .i64 bc1, .int .i64 bk1, .slice ad1 dl1 dc1, .slice al1 ll1 lc1, .int .i64 mn1]) := hJ.val 6 (show 6 < 15 by decide) (by decide) (by decide) (getD_upJ (hd ⟨6, .data⟩ (by simp) (by rfl)))
          subst d6
          refine wpOp_of_list (by rfl) ?_
          have HLC := hd0 (HLEG1.out W ((HL1.out.below HBX8.out).below hJ.below))
          go_wp2_with fail
          go_at_call 25; refine (HLC.out).mono ?_; rintro e w' ⟨rfl, xq, rfl⟩
          go_wp2
          exact HK.out _ _ ⟨_, _, _, _, _, _, _, _, _, _, _, _, _, _, _, rfl, (hJ.grow _).up 7 (by decide) (by decide) (show 7 < 15 by decide) rfl⟩
         ·obtain rfl := Option.some.inj ho
          have d7 : x7 = (Value.agg #[.int .i64 zb.lx, .int .i64 zb.ly, .int .i64 zb.lz, .int .i64 zb.hx, .int .i64 zb.hy, .int .i64 zb.hz]) := hJ.val 7 (show 7 < 15 by decide) (by decide) (by decide) (getD_upJ (hd ⟨7, .data⟩ (by simp) (by rfl)))
          subst d7
          refine wpOp_of_list (by rfl) ?_
          go_wp2
          exact HK.out _ _ ⟨_, _, _, _, _, _, _, _, _, _, _, _, _, _, _, rfl, hJ.up 8 (by decide) (by decide) (show 8 < 15 by decide) rfl⟩
         ·obtain rfl := Option.some.inj ho
          have d8 : x8 = (Value.agg #[.int .i64 zb.hx, .int .i64 zb.hy, .int .i64 zb.hz]) := hJ.val 8 (show 8 < 15 by decide) (by decide) (by decide) (getD_upJ (hd ⟨8, .data⟩ (by simp) (by rfl)))
          subst d8
          refine wpOp_of_list (by rfl) ?_
          go_wp2
          exact HK.out _ _ ⟨_, _, _, _, _, _, _, _, _, _, _, _, _, _, _, rfl, hJ.up 9 (by decide) (by decide) (show 9 < 15 by decide) rfl⟩
         ·obtain rfl := Option.some.inj ho
          refine wpOp_of_list (by rfl) ?_
          go_wp2
          exact HK.out _ _ ⟨_, _, _, _, _, _, _, _, _, _, _, _, _, _, _, rfl, hJ.up 10 (by decide) (by decide) (show 10 < 15 by decide) rfl⟩
         ·obtain rfl := Option.some.inj ho
          have d9 : x9 = .int .i64 zb.hx := hJ.val 9 (show 9 < 15 by decide) (by decide) (by decide) (getD_upJ (hd ⟨9, .data⟩ (by simp) (by rfl)))
          have d10 : x10 = .int .i64 up := hJ.val 10 (show 10 < 15 by decide) (by decide) (by decide) (getD_upJ (hd ⟨10, .data⟩ (by simp) (by rfl)))
          subst d9 d10
          refine wpOp_of_list (by rfl) ?_
          go_wp2
          exact HK.out _ _ ⟨_, _, _, _, _, _, _, _, _, _, _, _, _, _, _, rfl, hJ.up 11 (by decide) (by decide) (show 11 < 15 by decide) rfl⟩
         ·obtain rfl := Option.some.inj ho
          have d5 : x5 = .int .i64 (gb.lx + lw) := hJ.val 5 (show 5 < 15 by decide) (by decide) (by decide) (getD_upJ (hd ⟨5, .data⟩ (by simp) (by rfl)))
          have d11 : x11 = .int .i64 (zb.hx - up) := hJ.val 11 (show 11 < 15 by decide) (by decide) (by decide) (getD_upJ (hd ⟨11, .data⟩ (by simp) (by rfl)))
          subst d5 d11
          refine wpOp_of_list (by rfl) ?_
          go_wp2
          exact HK.out _ _ ⟨_, _, _, _, _, _, _, _, _, _, _, _, _, _, _, rfl, hJ.up 12 (by decide) (by decide) (show 12 < 15 by decide) rfl⟩
         ·obtain rfl := Option.some.inj ho
          refine wpOp_of_list (by rfl) ?_
          go_wp2
          exact HK.out _ _ ⟨_, _, _, _, _, _, _, _, _, _, _, _, _, _, _, rfl, hJ.make (show 13 < 15 by decide) (by decide) hun #[.int .i64 0, .int .i64 0] rfl rfl⟩
         ·obtain rfl := Option.some.inj ho
          have d12 : x12 = (.agg #[.int .i64 (gb.lx + lw), .int .i64 (zb.hx - up)]) := hJ.val 12 (show 12 < 15 by decide) (by decide) (by decide) (getD_upJ (hd ⟨12, .data⟩ (by simp) (by rfl)))
          have hka := getD_upJ (hd ⟨13, .data⟩ (by simp) (by rfl))
          obtain ⟨g, hs, hg, cs, hcs, hb, -⟩ := hJ.made hka
          have hs2 : x13 = .pointer (some ⟨g, 0, none⟩) := hs
          obtain ⟨a0, h0⟩ : ∃ a, cs[0]? = some a := ⟨_, Array.getElem?_eq_getElem (by rw [hcs]; exact (show 0 < 2 by decide))⟩
          obtain ⟨a1, h1⟩ : ∃ a, cs[1]? = some a := ⟨_, Array.getElem?_eq_getElem (by rw [hcs]; exact (show 1 < 2 by decide))⟩
          have f0 : W.frozen? ⟨g, 0, none⟩ = false := hb.frozen 0
          have g0 : W.cell? ⟨g, 0, none⟩ = some a0 := (hb.cell 0).trans h0
          have f1 : W.frozen? ⟨g, 1, none⟩ = false := hb.frozen 1
          have g1 : W.cell? ⟨g, 1, none⟩ = some a1 := (hb.cell 1).trans h1
          subst d12
          subst hs2
          refine wpOp_of_list (by rfl) ?_
          go_wp2
          refine HK.out _ _ ⟨_, _, _, _, _, _, _, _, _, _, _, _, _, _, _, rfl, hJ.fill (by decide) hka hs hg ((hJ.below.setCell hg _).setCell hg _) ?_⟩
          rw [← fill2 (a := .int .i64 (gb.lx + lw)) (b := .int .i64 (zb.hx - up)) hcs]
          exact ((hb.set 0 _).set 1 _)
        ·intro vs g W hlen hb hv hs hg hk
         obtain ⟨x0, vs0, rfl, hlen0⟩ := len_cons hlen
         obtain ⟨x1, vs1, rfl, hlen1⟩ := len_cons hlen0
         obtain ⟨x2, vs2, rfl, hlen2⟩ := len_cons hlen1
         obtain ⟨x3, vs3, rfl, hlen3⟩ := len_cons hlen2
         obtain ⟨x4, vs4, rfl, hlen4⟩ := len_cons hlen3
         obtain ⟨x5, vs5, rfl, hlen5⟩ := len_cons hlen4
         obtain ⟨x6, vs6, rfl, hlen6⟩ := len_cons hlen5
         obtain ⟨x7, vs7, rfl, hlen7⟩ := len_cons hlen6
         obtain ⟨x8, vs8, rfl, hlen8⟩ := len_cons hlen7
         obtain ⟨x9, vs9, rfl, hlen9⟩ := len_cons hlen8
         obtain ⟨x10, vs10, rfl, hlen10⟩ := len_cons hlen9
         obtain ⟨x11, vs11, rfl, hlen11⟩ := len_cons hlen10
         obtain ⟨x12, vs12, rfl, hlen12⟩ := len_cons hlen11
         obtain ⟨x13, vs13, rfl, hlen13⟩ := len_cons hlen12
         obtain ⟨x14, vs14, rfl, hlen14⟩ := len_cons hlen13
         obtain rfl := len_nil hlen14
         clear hlen hlen0 hlen1 hlen2 hlen3 hlen4 hlen5 hlen6 hlen7 hlen8 hlen9 hlen10 hlen11 hlen12 hlen13 hlen14
         obtain rfl : x0 = (.agg #[.string bm0, .int .i64 bs0, .int .i64 bc0, .int .i64 bk0, .slice ad0 dl0 dc0, .slice al0 ll0 lc0, .int .i64 mn0]) := hv 0 (show 0 < 15 by decide) (by decide) (by decide)
         obtain rfl : x1 = (Value.agg #[.int .i64 gb.lx, .int .i64 gb.ly, .int .i64 gb.lz, .int .i64 gb.hx, .int .i64 gb.hy, .int .i64 gb.hz]) := hv 1 (show 1 < 15 by decide) (by decide) (by decide)
         obtain rfl : x2 = (Value.agg #[.int .i64 gb.lx, .int .i64 gb.ly, .int .i64 gb.lz]) := hv 2 (show 2 < 15 by decide) (by decide) (by decide)
         obtain rfl : x3 = .int .i64 gb.lx := hv 3 (show 3 < 15 by decide) (by decide) (by decide)
         obtain rfl : x4 = .int .i64 lw := hv 4 (show 4 < 15 by decide) (by decide) (by decide)
         obtain rfl : x5 = .int .i64 (gb.lx + lw) := hv 5 (show 5 < 15 by decide) (by decide) (by decide)
         obtain rfl : x6 = (.agg #[.string bm1, .int .i64 bs1, .int .i64 bc1, .int .i64 bk1, .slice ad1 dl1 dc1, .slice al1 ll1 lc1, .int .i64 mn1]) := hv 6 (show 6 < 15 by decide) (by decide) (by decide)
         obtain rfl : x7 = (Value.agg #[.int .i64 zb.lx, .int .i64 zb.ly, .int .i64 zb.lz, .int .i64 zb.hx, .int .i64 zb.hy, .int .i64 zb.hz]) := hv 7 (show 7 < 15 by decide) (by decide) (by decide)
         obtain rfl : x8 = (Value.agg #[.int .i64 zb.hx, .int .i64 zb.hy, .int .i64 zb.hz]) := hv 8 (show 8 < 15 by decide) (by decide) (by decide)
         obtain rfl : x9 = .int .i64 zb.hx := hv 9 (show 9 < 15 by decide) (by decide) (by decide)
         obtain rfl : x10 = .int .i64 up := hv 10 (show 10 < 15 by decide) (by decide) (by decide)
         obtain rfl : x11 = .int .i64 (zb.hx - up) := hv 11 (show 11 < 15 by decide) (by decide) (by decide)
         obtain rfl : x12 = (.agg #[.int .i64 (gb.lx + lw), .int .i64 (zb.hx - up)]) := hv 12 (show 12 < 15 by decide) (by decide) (by decide)
         obtain rfl : x13 = .pointer (some ⟨g, 0, none⟩) := hs
         clear hv
         simp only [putAll_cons, putAll_nil, put_some, put_none, List.setIfInBounds_toArray, List.set_cons_succ, List.set_cons_zero]
         have hgt := hg
         have HB9 := hd0 (HB8.out.trans (Below.mono hb HB8.out.size))
         have HK9 := hd0 (HK11.out.below hb)
         have s0 := hk.cell 0
         have s1 := hk.cell 1
         have f1 := (HK11.out.below hb).frozen 1
         have f2 := (HK11.out.below hb).frozen 2
         have f3 := (HK11.out.below hb).frozen 3
         have t1 := (HK11.out.below hb).cell 1
         have t2 := (HK11.out.below hb).cell 2
         have t3 := (HK11.out.below hb).cell 3
         clear hk hb hg hgt HK11 HM0 HM1 HB8 HBX8
         by_cases hlh : gb.lx + lw < zb.hx - up
         ·have d5 : decide (gb.lx + lw < zb.hx - up) = true := by simpa using hlh
          rw [if_pos hlh] at HSP
          clear hlh
          go_upto_region 29 with fail
          refine world_mask (fun W' => Below W3.heap.size W3 W' ∧ Blk W' g11 #[.slice (some ⟨bb, ob, none⟩) (m + 1) cb, .int .i64 (gb.lx + lw), .int .i64 (zb.hx - up), .bool true, .int .i64 (areaC x C)] 79) _ ⟨((HB9.out.setCell (by rw [HG.out]; exact Nat.le_refl _) _).setCell (by rw [HG.out]; exact Nat.le_refl _) _).setCell (by rw [HG.out]; exact Nat.le_refl _) _, ((HK9.out.set 1 _).set 2 _).set 3 _⟩ ?_
          clear s0 s1 f1 f2 f3 t1 t2 t3 HB9 HK9
          rintro W10 ⟨hb10, k11⟩
          have HB10 := hd0 hb10
          have HK10 := hd0 k11
          clear hb10 k11
          have HRW2 := hd0 (own_grows HROW.out HB10.out)
          have hsz2 : W1.heap.size ≤ W3.heap.size := HCB.out.size
          have hsz3 := HB10.out.size
          go_wp2_with (first | (refine wpList_load_row rfl _ _ rfl _ rfl _ _ _ _ HK10.out rfl rfl rfl ?_) | (at_builtin; refine app_own_b rfl _ _ 74 rfl 79 (.agg #[.slice none 0 0, .int .i64 0, .int .i64 0, .bool false, .int .i64 0]) 5 56 Tryz.underlying74 info_ch rfl (by decide) W1.heap.size (.slice av LC.length cv) LC.length (chCells P) _ rfl (HRW2.out.alloc _) _ 1 1 (ch1 ⟨C, (gb.lx + lw), (zb.hx - up), true, areaC x C⟩ (.slice (some ⟨bb, ob, none⟩) (m + 1) cb)) rfl rfl (cells_new ?_ _ _ _ rfl) (by simp [ch1, Value.oneCell']) (by have := HTL.out; omega) (by decide) ?_ ?_; (first | rfl | simp [size_ext]); (simp only [World.size_alloc]; omega); intro v' w1 hown' hgrow; have HO2 := hd0 hown'; obtain ⟨a', c', rfl, -, hc2, -⟩ := own_shape hown'; have hc3 : c' ≤ 9223372036854775807 := hc2; have HGR := hd0 hgrow; clear hown' hgrow hc2))
          go_roundw
          case rel => exact ⟨k + 1, by omega, by go_num, rfl, by rw [HCI.out, HLE.out, HCI2.out, show spanI x i0 i1 = some (gb.lx + lw, zb.hx - up) by exact HSP.out]; exact ChO.app (grow_alloc _ (HCB.out.trans (Below.mono HB10.out HCB.out.size))) HP.out (HRW2.out.alloc _) HIN.out HU.out HO2.out HGR.out⟩
          case measure => simp [intOf]; omega
         ·have d5 : decide (gb.lx + lw < zb.hx - up) = false := by simpa using hlh
          rw [if_neg hlh] at HSP
          clear hlh
          go_upto_region 29 with fail
          clear s0 s1 f1 f2 f3 t1 t2 t3
          have HRW2 := hd0 (own_grows HROW.out HB9.out)
          have hsz2 : W1.heap.size ≤ W3.heap.size := HCB.out.size
          have hsz3 := HB9.out.size
          go_wp2_with (first | (refine wpList_load_row rfl _ _ rfl _ rfl _ _ _ _ HK9.out rfl rfl rfl ?_) | (at_builtin; refine app_own_b rfl _ _ 74 rfl 79 (.agg #[.slice none 0 0, .int .i64 0, .int .i64 0, .bool false, .int .i64 0]) 5 56 Tryz.underlying74 info_ch rfl (by decide) W1.heap.size (.slice av LC.length cv) LC.length (chCells P) _ rfl (HRW2.out.alloc _) _ 1 1 (ch1 ⟨C, 0, 0, false, areaC x C⟩ (.slice (some ⟨bb, ob, none⟩) (m + 1) cb)) rfl rfl (cells_new ?_ _ _ _ rfl) (by simp [ch1, Value.oneCell']) (by have := HTL.out; omega) (by decide) ?_ ?_; (first | rfl | simp [size_ext]); (simp only [World.size_alloc]; omega); intro v' w1 hown' hgrow; have HO2 := hd0 hown'; obtain ⟨a', c', rfl, -, hc2, -⟩ := own_shape hown'; have hc3 : c' ≤ 9223372036854775807 := hc2; have HGR := hd0 hgrow; clear hown' hgrow hc2))
          go_roundw
          case rel => exact ⟨k + 1, by omega, by go_num, rfl, by rw [HCI.out, HLE.out, HCI2.out, show spanI x i0 i1 = none by exact HSP.out]; exact ChO.app (grow_alloc _ (HCB.out.trans (Below.mono HB9.out HCB.out.size))) HP.out (HRW2.out.alloc _) HIN.out HU.out HO2.out HGR.out⟩
          case measure => simp [intOf]; omega
  ·obtain rfl : k = (chnI x).length := by omega
   have e5 : W3.cell? ⟨g5, 0, none⟩ = some (.slice ra (rodsI x).length rc) := ((HJ1.out.g5).below HCB.out).cell 0
   have hall : (chsI x).take (chnI x).length = chsI x := by unfold chsI; rw [List.take_of_length_le (by simp)]
   have HCH := hd0 (show ChO W1 W3 (.slice av LC.length cv) (chsI x) by rw [← HLE.out, hall] at hch ⊢; exact hch)
   clear hch hcb hP hrow hin htl hall hcv
   go_wp2
   refine bodyPost_ret (v := .tuple #[.slice ra (rodsI x).length rc, .slice av LC.length cv, .int .i64 0]) (by simp [results, Tryz.results108, go_sem]) rfl ?_
   exact ⟨_, _, W1, rfl, HJ1.out.below, HJ1.out.rods, HCH.out⟩
end Go.Proofs.YtkjljneehgmmaaaGreat
