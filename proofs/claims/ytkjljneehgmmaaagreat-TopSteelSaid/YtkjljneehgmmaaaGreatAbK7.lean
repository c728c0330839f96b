/- TtA, TtB, TtH, TtI, TtJ in one text. -/
import Derived.Test.YtkjljneehgmmaaaGreatTsZ
import Derived.Test.YtkjljneehgmmaaaGreatAbK3
namespace Go.Proofs.YtkjljneehgmmaaaGreat
set_option linter.unusedVariables false
set_option linter.unusedSimpArgs false
open Go Go.RowKit
set_option maxRecDepth 20000
set_option maxHeartbeats 16000000
set_option maxRecDepth 100000

theorem supp1_c (x : Dt) (hv : DtV x) (d : Nat) (hd : d < x.dm.length) (i : Int) (h0 : 0 ≤ i) (h1 : i < countS x.rs) (rv : Value) (g7 g2 g3 : Nat) (w : World) (h : DtAt w x) (hr : RodsR w rv (rodsI x)) (h7 : w.cell? ⟨g7, 0, none⟩ = some rv) (h2 : Blk w g2 (dtC x) 34) (h3 : w.cell? ⟨g3, 0, none⟩ = some (.int .i64 d)) :
  Calls Tryz.prog 110 #[.int .i64 i, .pointer (some ⟨g7, 0, none⟩), .pointer (some ⟨g2, 0, none⟩), .pointer (some ⟨g3, 0, none⟩)] w (Ret w (.bool (outB x x.dm[d] i))) := by
 obtain ⟨k, hk, ek, erd⟩ := rodsI_get x h0 h1
 have hok := rodOk x hv h0 h1 w h
 obtain ⟨ra, rc, erv, -, -, hr4⟩ := hr.shape
 obtain ⟨br, orr, u, era, hcs, hls⟩ := hr4 k hk
 subst era
 subst erv
 rw [erd] at hcs hls
 obtain ⟨da, dc, edv, -, -, hd4⟩ := h.dm.shape
 obtain ⟨hfo, bd, od, eda, hdc⟩ := hd4 d hd
 subst eda
 have hdm := hv.dm _ (List.getElem_mem hd)
 have HMV := hd0 (fun g hg => (mainI_valid x hv h0 h1 (g := g) hg).2)
 have q1 : (0 : Int) ≤ (k : Int) := by omega
 have q2 : (k : Int) < ((rodsI x).length : Int) := by omega
 have q3 : (0 : Int) ≤ (d : Int) := by omega
 have q4 : (d : Int) < (x.dm.length : Int) := by omega
 have e9 : w.cell? ⟨g2, 9, none⟩ = some (.slice (some ⟨bd, od, none⟩) x.dm.length dc) := (h2.cell 9).trans (congrArg some edv)
 subst ek
 generalize rodI x.l x.rs (k : Int) = R at *
 obtain ⟨⟨bm, bs, bc, bk, bdims, bv⟩, lg, mn⟩ := R
 obtain ⟨-, -, ⟨ad, dl, dc', ebv⟩, hsome, hnone⟩ := hok
 obtain ⟨al, lc, eul, -, -, -⟩ := hls.shape
 simp only at ebv hsome hnone eul hls
 subst ebv
 subst eul
 have HLS := hd0 hls
 have HFO := hd0 hfo
 obtain ⟨c0, c1, c2, c3, c4, c5, c6⟩ := hcs
 obtain ⟨a0, a1, a2, a3, a4, a5, a6, a7⟩ := hdc
 have hsl := hfo.steps
 have HIN := hd0 (fun g w hg (hfd : DmOk w (x.dm[d]'hd)) => demIn_c (x.dm[d]'hd) g hdm hg w hfd)
 unfold outB
 have HSM := hd0 hsome
 have HNN := hd0 hnone
 clear hr hr4 hd4 h hls hfo hsome hnone erd hv hdm h2 edv hk
 generalize x.dm[d] = f at *
 obtain ⟨name, zone, steps, v⟩ := f
 simp only at *
 obtain ⟨av, cv, rfl, -, -, -⟩ := hsl.shape
 clear hsl
 cases e : mainI x.l x.rs (k : Int) with
 | none =>
   have d1 : decide (mn < 0) = true := by have := HNN.out e; simp; omega
   clear e
   go_enter Tryz.func110, Tryz.ntmps110
   go_wp2
   go_ret
   exact Ret.of gro
 | some g =>
   obtain ⟨q, hq, el, em, -⟩ := HSM.out g e
   have d1 : decide (mn < 0) = false := by simp; omega
   have HLEG := hd0 (fun (W : World) hu => rodLeg_c ⟨⟨bm, bs, bc, bk, bdims, .slice ad dl dc'⟩, lg, mn⟩ (.slice al lg.length lc) q hq em ⟨_, _, _, rfl⟩ W hu)
   simp only [el] at HLEG
   have HI2 := hd0 (fun w hf => HIN.out g w (HMV.out g e) hf)
   clear e el em hq HIN HMV HSM HNN
   show Calls _ _ _ _ (Ret w (.bool (!zoneB ⟨name, zone, steps, .slice av steps.length cv⟩ g)))
   generalize zoneB ⟨name, zone, steps, .slice av steps.length cv⟩ g = z at *
   go_enter Tryz.func110, Tryz.ntmps110
   go_wp2_with fail
   refine wp_region_grows (by kernel_rfl) (by kernel_rfl) ?_
   repeat (go_big_quiet_step ((first | (go_at_call 25; exact Calls.quiet_ext (HLEG.out _ (HLS.out.below gro))) | (go_at_call 10; exact Calls.quiet_ext (HI2.out _ (HFO.out.below gro))))))
   refine wpQuiet_nil ?_; rintro _ ⟨xq, rfl⟩
   go_wp2
   cases z <;> go_ret <;> exact Ret.of gro
theorem enters_supp1 : Enters 110 := enters_of Tryz.func110 (by decide) (by simp [Tryz.f110])
theorem outside_c (x : Dt) (hv : DtV x) (d : Nat) (hd : d < x.dm.length) (C : List Int) (hC : ChnOk x C) (u rv : Value) (g7 g2 g3 : Nat) (w : World) (h : DtAt w x) (hr : RodsR w rv (rodsI x)) (h7 : w.cell? ⟨g7, 0, none⟩ = some rv) (h2 : Blk w g2 (dtC x) 34) (h3 : w.cell? ⟨g3, 0, none⟩ = some (.int .i64 d)) (hu : Nts w u C) :
  Calls Tryz.prog 109 #[u, .func (.func 110) #[] #[.pointer (some ⟨g7, 0, none⟩), .pointer (some ⟨g2, 0, none⟩), .pointer (some ⟨g3, 0, none⟩)]] w (Ret w (.bool (C.any (outB x x.dm[d])))) :=
 containsFunc_cI _ enters_supp1 _ (outB x x.dm[d]) C u w hu fun b y hb => supp1_c x hv d hd b (hC.one b hb).1 (hC.one b hb).2 rv g7 g2 g3 (ext w y) (h.below (below_ext w y)) (hr.below (below_ext w y)) (cell_ext_some h7 y) (h2.ext y) (cell_ext_some h3 y)
theorem filter_snoc (p : Ch → Bool) (l : List Ch) (c : Ch) : (l ++ [c]).filter p = l.filter p ++ (if p c = true then [c] else []) := by
 rw [List.filter_append]
 cases h : p c <;> simp [h]
structure SuJ (w : World) (x : Dt) (d g7 : Nat) (rv : Value) (W : World) : Prop where
 below : Below w.heap.size w W
 dt : Blk W w.heap.size (dtC x) 34
 d : Blk W (w.heap.size + 1) #[.int .i64 d] 3
 g7 : Blk W g7 #[rv] 73
 rods : RodsR W rv (rodsI x)
theorem SuJ.grows {w W W' : World} {x : Dt} {d g7 : Nat} {rv : Value} (h : SuJ w x d g7 rv W) (hb : Below W.heap.size W W') : SuJ w x d g7 rv W' := ⟨h.below.trans (Below.mono hb h.below.size), h.dt.below hb, h.d.below hb, h.g7.below hb, h.rods.below hb⟩
theorem suppliers_c (x : Dt) (hv : DtV x) (d : Nat) (hd : d < x.dm.length) (w : World) (h : DtAt w x) : Calls Tryz.prog 58 #[(.agg #[.string x.q.name, x.q.u, x.q.t, .int .i64 x.q.cover, .int .i64 x.q.agg, .int .i64 x.q.poker, x.lv, x.rv, x.pv, x.dv, .int .i64 x.ru.num, .int .i64 x.ru.den, .int .i64 x.ru.pn, .int .i64 x.ru.pd, .int .i64 x.ru.bn, .int .i64 x.ru.bd, .int .i64 x.ru.ln, .int .i64 x.ru.ld, .int .i64 x.ru.least]), .int .i64 d] w (RetCh w x (supI x x.dm[d])) := by
 have HX := hd0 h
 have HCH := hd0 (fun w h => supChains_c x hv w h)
 have HOK := hd0 (chsI_ok x hv)
 have HOU := hd0 (fun C hC u rv g7 g2 g3 w h hr h7 h2 h3 hu => outside_c x hv d hd C hC u rv g7 g2 g3 w h hr h7 h2 h3 hu)
 obtain ⟨da, dc, edv, -⟩ := h.dm.shape
 have HDV := hd0 edv
 have hcn : (chsI x).length ≤ 100000 := by
  have h1 := chsI_len x
  have h2 := (count_le hv.laid 0).2.2
  omega
 unfold supI
 have q3 : decide ((d : Int) < 0) = false := by simp
 have q4 : decide ((x.dm.length : Int) ≤ (d : Int)) = false := by simp; omega
 have q5 : decide (x.dm.length ≤ d) = false := by simp; omega
 clear h hv edv
 generalize x.dm[d] = f at *
 go_enter Tryz.func58, Tryz.ntmps58
 go_upto_region 1 with fail
 refine world_mask (fun W => Below w.heap.size w W ∧ Blk W w.heap.size (dtC x) 34 ∧ Blk W (w.heap.size + 1) #[.int .i64 d] 3) _ ⟨gro, (Blk.new _ _ _).alloc _, Blk.new' (by simp only [World.size_alloc]) _ _⟩ ?_
 rintro W2 ⟨hb2, K2, K3⟩
 have HB2 := hd0 hb2
 have HK2 := hd0 K2
 have HK3 := hd0 K3
 clear hb2 K2 K3
 go_upto_region 2 with (first | (refine wpList_load_row rfl _ _ rfl _ rfl _ (dtC x) _ _ HK2.out rfl rfl rfl ?_) | (go_at_call 108; refine (HCH.out _ (HX.out.below HB2.out)).mono ?_; rintro e w' ⟨rv, lv, Wc, rfl, hbc, hrc, hch⟩; have hbw := hbc.trans (Below.mono hch.below hbc.size); have hrr := hrc.below hch.below; obtain ⟨ra, rc, erv, -⟩ := hrr.shape; subst erv; have hcr := hch.read; obtain ⟨la, lc, elv, -⟩ := hcr.shape; subst elv; have HBW := hd0 hbw; have HRR := hd0 hrr; have HCR := hd0 hcr; clear hbc hrc hch hbw hrr hcr))
 refine world_mask (fun W => SuJ w x d w'.heap.size (.slice ra (rodsI x).length rc) W ∧ ChR W (.slice la (chsI x).length lc) (chsI x)) _ ⟨⟨grow_alloc _ (HB2.out.trans (Below.mono HBW.out HB2.out.size)), (HK2.out.below HBW.out).alloc _, (HK3.out.below HBW.out).alloc _, Blk.new _ _ _, HRR.out.below gro⟩, HCR.out.below gro⟩ ?_
 have hg7 : w.heap.size ≤ w'.heap.size := Nat.le_trans HB2.out.size HBW.out.size
 clear HB2 HK2 HK3 HBW HRR HCR
 generalize w'.heap.size = g7 at *
 rintro W1 ⟨J1, R1⟩
 have HJ1 := hd0 J1
 obtain ⟨la', lc', ela, -, -, n4⟩ := R1
 cases ela
 have HN4 := hd0 n4
 have e9 : W1.cell? ⟨w.heap.size, 9, none⟩ = some (.slice da x.dm.length dc) := (J1.dt.cell 9).trans (congrArg some HDV.out)
 have e1 : W1.cell? ⟨w.heap.size + 1, 0, none⟩ = some (.int .i64 d) := J1.d.cell 0
 clear J1 n4
 go_wp2_with fail
 clear q3 q4 q5 hd
 go_loopw [36, 10] (fun i v wr => ∃ k : Nat, k ≤ (chsI x).length ∧ i = .int .i64 k ∧ ChO W1 wr v (((chsI x).take k).filter (supC x f))) (fun i _ _ => (chsI x).length - (intOf i).toNat)
 case atStart => exact ⟨0, Nat.zero_le _, rfl, ChO.nil _⟩
 case round =>
  obtain ⟨W3, rfl⟩ : ∃ W : World, W = wr := ⟨_, rfl⟩
  clear e9 e1
  obtain ⟨k, hk, rfl, hch⟩ := hrel
  have hcb := hch.below
  obtain ⟨P, hP, hrow, hin⟩ := hch.row
  have hfl : (((chsI x).take k).filter (supC x f)).length ≤ k := Nat.le_trans (List.length_filter_le _ _) (by rw [List.length_take]; omega)
  have HCO := hd0 hch
  obtain ⟨L, hL⟩ : ∃ L, ((chsI x).take k).filter (supC x f) = L := ⟨_, rfl⟩
  rw [hL] at hrow hP hfl HCO
  obtain ⟨av, cv, rfl, -, hcv, -⟩ := own_shape hrow
  have hcv3 : cv ≤ 9223372036854775807 := hcv
  have HCB := hd0 hcb
  have HP := hd0 hP
  have HROW := hd0 hrow
  have HIN := hd0 hin
  have HFL := hd0 hfl
  have HL := hd0 hL
  clear hch hcb hP hrow hin hfl hL hcv
  by_cases hlt : k < (chsI x).length
  ·obtain ⟨bl, ol, u, ela, hca, hu⟩ := HN4.out k hlt
   subst ela
   have hck := HOK.out _ (List.getElem_mem hlt)
   have HCI := hd0 (show ((chsI x).take (k + 1)).filter (supC x f) = L ++ (if supC x f ((chsI x)[k]'hlt) = true then [(chsI x)[k]'hlt] else []) by rw [List.take_succ_eq_append_getElem hlt, filter_snoc, HL.out])
   obtain ⟨C, hC⟩ : ∃ c, (chsI x)[k] = c := ⟨_, rfl⟩
   rw [hC] at hck hca hu HCI
   obtain ⟨bars, lo, hi, is, area⟩ := C
   obtain ⟨ab, cb, eu, -, -, -⟩ := hu.shape
   simp only at eu hu
   subst eu
   have HU := hd0 hu
   have HOB := hd0 (fun (W : World) h hr h7 h2 h3 hu => HOU.out bars hck.chn (.slice ab bars.length cb) (.slice ra (rodsI x).length rc) g7 w.heap.size (w.heap.size + 1) W h hr h7 h2 h3 hu)
   have HSC := hd0 (show supC x f ⟨bars, lo, hi, is, area⟩ = (is && !(bars.any (outB x f))) from rfl)
   obtain ⟨y, ey⟩ := ext_of HCB.out
   have hca2 := hca.ext y
   rw [← ey] at hca2
   obtain ⟨c0, c1, c2, c3, c4⟩ := hca2
   simp only at c1 c2 c3 c4
   have i1 : (0 : Int) ≤ (k : Int) := by omega
   have i2 : (k : Int) < ((chsI x).length : Int) := by omega
   obtain ⟨nb, hnb⟩ : ∃ n, bars.length = n := ⟨_, rfl⟩
   rw [hnb] at c0 HU HOB
   clear hca hu hck hC ey hnb
   go_upto_region 10 with fail
   refine world_mask (fun W => Below W3.heap.size W3 W ∧ Blk W W3.heap.size #[.slice ab nb cb, .int .i64 lo, .int .i64 hi, .bool is, .int .i64 area] 79) _ ⟨gro, Blk.new _ _ _⟩ ?_
   clear c0 c1 c2 c3 c4
   have hg12 : W1.heap.size ≤ W3.heap.size := HCB.out.size
   generalize hG : W3.heap.size = g12 at hg12 ⊢
   rintro W4 ⟨hb4, K4⟩
   rw [← hG] at hb4
   have HB4 := hd0 hb4
   have HK4 := hd0 K4
   have HB14 := hd0 (HCB.out.trans (Below.mono hb4 HCB.out.size))
   have c0 := K4.cell 0
   have c3 := fun y => (K4.ext y).cell 3
   have HG := hd0 hG
   clear hb4 K4 hG
   obtain ⟨b, hb⟩ : ∃ b, bars.any (outB x f) = b := ⟨_, rfl⟩
   rw [hb] at HSC HOB
   go_upto_region 11 with (go_at_call 109; refine (HOB.out _ (HX.out.below (HJ1.out.below.trans (Below.mono HB14.out HJ1.out.below.size))) (HJ1.out.rods.below HB14.out) ((HJ1.out.g7.below HB14.out).cell 0) (HJ1.out.dt.below HB14.out) ((HJ1.out.d.below HB14.out).cell 0) (HU.out.below HB14.out)).mono ?_; rintro e w' ⟨rfl, y1, rfl⟩; have c3' := c3 y1)
   have HB5 := hd0 (show Below W3.heap.size W3 (ext W4 y1) from grob HB4.out)
   have HK5 := hd0 (HK4.out.ext y1)
   clear HB4 HK4 c0 c3 HB14 hb
   generalize ext W4 y1 = W5 at *
   cases is
   ·rw [show supC x f ⟨bars, lo, hi, false, area⟩ = false from rfl] at HCI
    go_wp2_with fail
    go_roundw
    case rel => exact ⟨k + 1, by omega, by go_num, by rw [HCI.out]; simp only [Bool.false_eq_true, if_false, List.append_nil]; exact HCO.out.grows HB5.out⟩
    case measure => simp [intOf]; omega
   ·cases b
    ·rw [HSC.out] at HCI
     have HRW2 := hd0 (own_grows HROW.out HB5.out)
     have hsz3 := HB5.out.size
     have hkk : k ≤ 100000 := by omega
     go_wp2_with (first | (refine wpList_load_row rfl _ _ rfl _ rfl _ _ _ _ HK5.out rfl rfl rfl ?_) | (at_builtin; refine app_own_b rfl _ _ 74 rfl 79 (.agg #[.slice none 0 0, .int .i64 0, .int .i64 0, .bool false, .int .i64 0]) 5 56 Tryz.underlying74 info_ch rfl (by decide) W1.heap.size (.slice av L.length cv) L.length (chCells P) _ rfl (HRW2.out.alloc _) _ 1 1 (ch1 ⟨bars, lo, hi, true, area⟩ (.slice ab nb cb)) rfl rfl (cells_new ?_ _ _ _ rfl) (by simp [ch1, Value.oneCell']) (by have := HFL.out; omega) (by decide) ?_ ?_; (first | rfl | simp [size_ext]); (have := HG.out; simp only [World.size_alloc]; omega); intro v' w1 hown' hgrow; have HO2 := hd0 hown'; obtain ⟨a', c', rfl, -, hc2, -⟩ := own_shape hown'; have hc3 : c' ≤ 9223372036854775807 := hc2; have HGR := hd0 hgrow; clear hown' hgrow hc2))
     go_roundw
     case rel => exact ⟨k + 1, by omega, by go_num, by rw [HCI.out]; simp only [Bool.not_false, Bool.and_self, if_true]; exact ChO.app (grow_alloc _ (HCB.out.trans (Below.mono HB5.out HCB.out.size))) HP.out (HRW2.out.alloc _) HIN.out HU.out HO2.out HGR.out⟩
     case measure => simp [intOf]; omega
    ·rw [HSC.out] at HCI
     go_wp2_with fail
     go_roundw
     case rel => exact ⟨k + 1, by omega, by go_num, by rw [HCI.out]; simp only [Bool.not_true, Bool.and_false, Bool.false_eq_true, if_false, List.append_nil]; exact HCO.out.grows HB5.out⟩
     case measure => simp [intOf]; omega
  ·obtain rfl : k = (chsI x).length := by omega
   have e7 : W3.cell? ⟨g7, 0, none⟩ = some (.slice ra (rodsI x).length rc) := (HJ1.out.g7.below HCB.out).cell 0
   have HALL := hd0 (show (chsI x).filter (supC x f) = L by rw [← HL.out, List.take_length])
   go_wp2
   refine bodyPost_ret (v := .tuple #[.slice ra (rodsI x).length rc, .slice av L.length cv, .int .i64 0]) (by simp [results, Tryz.results58, go_sem]) rfl ?_
   exact ⟨_, _, W1, rfl, HJ1.out.below, HJ1.out.rods, by rw [HALL.out]; exact HCO.out⟩
theorem value_c (l : List Ch) (v : Value) (p : Int) (har : ∀ c ∈ l, 0 ≤ c.area ∧ c.area ≤ 130000) (hn : l.length ≤ 100000) (w : World) (hl : ChR w v l) : Calls Tryz.prog 24 #[v, .int .i64 p] w (Ret w (.int .i64 (valueI l p))) := by
 obtain ⟨a, cap, rfl, -, -, h4⟩ := hl.shape
 have H4 := hd0 h4
 have HAR := hd0 har
 clear hl h4 har
 go_enter Tryz.func24, Tryz.ntmps24
 go_wp2_with fail
 go_loopw [10, 5] (fun i n wr => ∃ k : Nat, k ≤ l.length ∧ i = .int .i64 k ∧ n = .int .i64 (valueI (l.take k) p) ∧ (∃ x, wr = ext w x)) (fun i _ _ => l.length - (intOf i).toNat)
 case atStart => exact ⟨0, Nat.zero_le _, rfl, rfl, ext_of gro⟩
 case round =>
  obtain ⟨k, hk, rfl, rfl, ⟨x, rfl⟩⟩ := hrel
  by_cases hlt : k < l.length
  ·obtain ⟨b, off, u, rfl, hca, hu⟩ := H4.out k hlt
   obtain ⟨c0, c1, c2, c3, c4⟩ := hca.ext x
   have har := HAR.out _ (List.getElem_mem hlt)
   have HT := hd0 (show valueI (l.take (k + 1)) p = if l[k].lo ≤ p ∧ p < l[k].hi then valueI (l.take k) p + l[k].area else valueI (l.take k) p by
    unfold valueI
    rw [List.take_succ_eq_append_getElem hlt, List.foldl_append]; rfl)
   obtain ⟨r1, r2⟩ := value_range (l := l.take k) (fun c hc => HAR.out c (List.mem_of_mem_take hc)) p
   have r4 : (l.take k).length ≤ 100000 := by rw [List.length_take]; omega
   have r3 : valueI (l.take k) p ≤ 13000000000 := by omega
   obtain ⟨ua, uc, rfl, -, -, -⟩ := hu.shape
   have q1 : (0 : Int) ≤ (k : Int) := by omega
   have q2 : (k : Int) < (l.length : Int) := by omega
   generalize valueI (l.take k) p = n at *
   generalize l[k] = C at *
   obtain ⟨bars, lo, hi, is, area⟩ := C
   simp only at *
   generalize bars.length = nb at *
   clear hca hu r2 r4
   by_cases h1 : lo ≤ p
   ·by_cases h2 : p < hi
    ·rw [if_pos ⟨h1, h2⟩] at HT
     have d1 : decide (lo ≤ p) = true := by simpa using h1
     have d2 : decide (p < hi) = true := by simpa using h2
     clear h1 h2
     go_wp2_with fail
     go_roundw
     case rel => exact ⟨k + 1, by omega, by go_num, by rw [HT.out], ext_of gro⟩
     case measure => simp [intOf]; omega
    ·rw [if_neg (fun q => h2 q.2)] at HT
     have d1 : decide (lo ≤ p) = true := by simpa using h1
     have d2 : decide (p < hi) = false := by simpa using h2
     clear h1 h2
     go_wp2_with fail
     go_roundw
     case rel => exact ⟨k + 1, by omega, by go_num, by rw [HT.out], ext_of gro⟩
     case measure => simp [intOf]; omega
   ·rw [if_neg (fun q => h1 q.1)] at HT
    have d1 : decide (lo ≤ p) = false := by simpa using h1
    clear h1
    go_wp2_with fail
    go_roundw
    case rel => exact ⟨k + 1, by omega, by go_num, by rw [HT.out], ext_of gro⟩
    case measure => simp [intOf]; omega
  ·obtain rfl : k = l.length := by omega
   rw [List.take_length]
   go_wp2
   go_ret
   exact Ret.of gro

theorem rods_at {w : World} {x : Dt} {v : Value} (h : RodsR w v (rodsI x)) {k : Nat} (hk : k < (rodsI x).length) {R : Rod} (e : (rodsI x)[k] = R) : ∃ c b off u, v = .slice (some ⟨b, off, none⟩) (rodsI x).length c ∧ RodAt w b (off + k * 7) R u ∧ Boxes w u R.legs := by
 obtain ⟨a, c, rfl, -, -, h4⟩ := h.shape
 obtain ⟨b, off, u, rfl, h5, h6⟩ := h4 k hk
 rw [e] at h5 h6
 exact ⟨c, b, off, u, rfl, h5, h6⟩
set_option maxRecDepth 100000 in
set_option maxHeartbeats 8000000 in
theorem supLeg_c (x : Dt) (hv : DtV x) (i : Int) (h0 : 0 ≤ i) (h1 : i < countS x.rs) (g : Bx) (hg : mainI x.l x.rs i = some g) (w : World) (h : DtAt w x) :
  Calls Tryz.prog 9 #[(.agg #[.string x.q.name, x.q.u, x.q.t, .int .i64 x.q.cover, .int .i64 x.q.agg, .int .i64 x.q.poker, x.lv, x.rv, x.pv, x.dv, .int .i64 x.ru.num, .int .i64 x.ru.den, .int .i64 x.ru.pn, .int .i64 x.ru.pd, .int .i64 x.ru.bn, .int .i64 x.ru.bd, .int .i64 x.ru.ln, .int .i64 x.ru.ld, .int .i64 x.ru.least]), .int .i64 i] w (Ret w (.tuple #[(.agg #[.int .i64 g.lx, .int .i64 g.ly, .int .i64 g.lz, .int .i64 g.hx, .int .i64 g.hy, .int .i64 g.hz]), .int .i64 0])) := by
 have HX := hd0 h
 have HLV := hd0 (fun w h => lapValid_c x hv w h)
 have HRD := hd0 (fun w h => rods_c x hv w h)
 obtain ⟨k, hk, ek, erd⟩ := rodsI_get x h0 h1
 have hok := rodOk x hv h0 h1 w h
 subst ek
 have HRR := hd0 erd
 have HKL := hd0 hk
 have q1 : (0 : Int) ≤ (k : Int) := by omega
 have q2 : (k : Int) < ((rodsI x).length : Int) := by omega
 have d1 : decide ((k : Int) < 0) = false := by simp
 have d2 : decide (((rodsI x).length : Int) ≤ (k : Int)) = false := by simp; omega
 generalize rodI x.l x.rs (k : Int) = R at *
 obtain ⟨⟨bm, bs, bc, bk, bdims, bv⟩, lg, mn⟩ := R
 obtain ⟨-, -, ⟨ad, dl, dc', ebv⟩, hsome, -⟩ := hok
 simp only at ebv hsome
 subst ebv
 obtain ⟨q, hq, el, em, -⟩ := hsome g hg
 have d3 : decide (mn < 0) = false := by simp; omega
 have HLEG := hd0 (fun (W : World) al lc hu => rodLeg_c ⟨⟨bm, bs, bc, bk, bdims, .slice ad dl dc'⟩, lg, mn⟩ (.slice al lg.length lc) q hq em ⟨_, _, _, rfl⟩ W hu)
 simp only [el] at HLEG
 clear h hv h0 h1 hg hsome erd el em hq
 go_enter Tryz.func9, Tryz.ntmps9
 go_upto_region 1 with fail
 refine world_mask (fun W => Below w.heap.size w W ∧ Blk W w.heap.size (dtC x) 34 ∧ Blk W (w.heap.size + 1) #[.int .i64 0, .int .i64 0, .int .i64 0, .int .i64 0, .int .i64 0, .int .i64 0] 40) _ ⟨gro, (Blk.new _ _ _).alloc _, Blk.new' (by simp only [World.size_alloc]) _ _⟩ ?_
 rintro W2 ⟨hb2, K2, K3⟩
 have HB2 := hd0 hb2
 have HK2 := hd0 K2
 have HK3 := hd0 K3
 clear hb2 K2 K3
 go_upto_region 3 with (first | (refine wpList_load_row rfl _ _ rfl _ rfl _ (dtC x) _ _ HK2.out rfl rfl rfl ?_) | (go_at_call 27; refine (HLV.out _ (HX.out.below HB2.out)).mono ?_; rintro e w' ⟨rfl, x1, rfl⟩))
 refine world_mask (fun W => Below w.heap.size w W ∧ Blk W w.heap.size (dtC x) 34 ∧ Blk W (w.heap.size + 1) #[.int .i64 0, .int .i64 0, .int .i64 0, .int .i64 0, .int .i64 0, .int .i64 0] 40) _ ⟨grob HB2.out, HK2.out.below gro, HK3.out.below gro⟩ ?_
 clear HB2 HK2 HK3
 rintro W3 ⟨hb2, K2, K3⟩
 have HB2 := hd0 hb2
 have HK2 := hd0 K2
 have HK3 := hd0 K3
 clear hb2 K2 K3
 go_upto_region 4 with (first | (refine wpList_load_row rfl _ _ rfl _ rfl _ (dtC x) _ _ HK2.out rfl rfl rfl ?_) | (go_at_call 28; refine (HRD.out _ (HX.out.below HB2.out)).mono ?_; rintro e w' ⟨vr, rfl, hrd, x2, rfl⟩; obtain ⟨rc, br, orr, u, evr, hcs, hls⟩ := rods_at (x := x) hrd.read HKL.out HRR.out; subst evr; obtain ⟨al, lc, eul, -⟩ := hls.shape; simp only at eul hls hcs; subst eul; have HLS := hd0 hls; obtain ⟨c0, c1, c2, c3, c4, c5, c6⟩ := hcs; simp only at c0 c1 c2 c3 c4 c5 c6; clear hrd hls))
 have HB3 := hd0 (show Below w.heap.size w (ext W3 x2) from grob HB2.out)
 have HK4 := hd0 (HK3.out.ext x2)
 clear HB2 HK2 HK3
 generalize ext W3 x2 = W4 at *
 go_wp2_with (go_at_call 25; refine (HLEG.out _ _ _ HLS.out).mono ?_; rintro e w' ⟨rfl, x3, rfl⟩; have hk5 := HK4.out.ext x3; have f0 := hk5.frozen 0; have f1 := hk5.frozen 1; have f2 := hk5.frozen 2; have f3 := hk5.frozen 3; have f4 := hk5.frozen 4; have f5 := hk5.frozen 5; have t0 := hk5.cell 0; have t1 := hk5.cell 1; have t2 := hk5.cell 2; have t3 := hk5.cell 3; have t4 := hk5.cell 4; have t5 := hk5.cell 5; have HK5 := hd0 hk5; clear hk5)
 have hb6 : Below w.heap.size w ((((((ext W4 x3).setCell ⟨w.heap.size + 1, 0, none⟩ (.int .i64 g.lx)).setCell ⟨w.heap.size + 1, 1, none⟩ (.int .i64 g.ly)).setCell ⟨w.heap.size + 1, 2, none⟩ (.int .i64 g.lz)).setCell ⟨w.heap.size + 1, 3, none⟩ (.int .i64 g.hx)).setCell ⟨w.heap.size + 1, 4, none⟩ (.int .i64 g.hy) |>.setCell ⟨w.heap.size + 1, 5, none⟩ (.int .i64 g.hz)) := ((((((show Below w.heap.size w (ext W4 x3) from grob HB3.out).setCell (Nat.le_add_right _ _) _).setCell (Nat.le_add_right _ _) _).setCell (Nat.le_add_right _ _) _).setCell (Nat.le_add_right _ _) _).setCell (Nat.le_add_right _ _) _).setCell (Nat.le_add_right _ _) _
 have hk6 := (((((HK5.out.set 0 (.int .i64 g.lx)).set 1 (.int .i64 g.ly)).set 2 (.int .i64 g.lz)).set 3 (.int .i64 g.hx)).set 4 (.int .i64 g.hy)).set 5 (.int .i64 g.hz)
 generalize ((((((ext W4 x3).setCell ⟨w.heap.size + 1, 0, none⟩ (.int .i64 g.lx)).setCell ⟨w.heap.size + 1, 1, none⟩ (.int .i64 g.ly)).setCell ⟨w.heap.size + 1, 2, none⟩ (.int .i64 g.lz)).setCell ⟨w.heap.size + 1, 3, none⟩ (.int .i64 g.hx)).setCell ⟨w.heap.size + 1, 4, none⟩ (.int .i64 g.hy) |>.setCell ⟨w.heap.size + 1, 5, none⟩ (.int .i64 g.hz)) = W6 at *
 have g0 := hk6.cell 0
 have g1 := hk6.cell 1
 have g2 := hk6.cell 2
 have g3 := hk6.cell 3
 have g4 := hk6.cell 4
 have g5 := hk6.cell 5
 refine bodyPost_ret (v := .tuple #[(Value.agg #[.int .i64 g.lx, .int .i64 g.ly, .int .i64 g.lz, .int .i64 g.hx, .int .i64 g.hy, .int .i64 g.hz]), .int .i64 0]) (by simp [results, Tryz.results9, go_sem, g0, g1, g2, g3, g4, g5]) rfl ?_
 exact Ret.of hb6

theorem stepsF_snoc (f : Int → Int) (ps : List Int) (p : Int) : ∀ last, stepsF f (ps ++ [p]) last = stepsF f ps last ++ (if f p ≠ ps.foldl (fun _ q => f q) last then [(p, f p)] else []) := by
 induction ps with
 | nil => intro last; by_cases h : f p = last <;> simp [stepsF, h]
 | cons q ps ih =>
   intro last
   rw [List.cons_append, List.foldl_cons]
   unfold stepsF
   split
   ·rw [ih, List.cons_append]
   ·rename_i h
    have e : f q = last := by simpa using h
    rw [ih, e]
theorem foldl_snoc (f : Int → Int) (ps : List Int) (p last : Int) : (ps ++ [p]).foldl (fun _ q => f q) last = f p := by rw [List.foldl_append]; rfl
theorem placesI_snoc (l : List Ch) (c : Ch) : placesI (l ++ [c]) = placesI l ++ [c.lo, c.hi] := by unfold placesI; rw [List.flatMap_append]; rfl
theorem own_grownBy {w w' : World} {b1 b2 s1 s2 n1 n2 : Nat} {e1 e2 : TypeId} {v1 v2 : Value} {x1 x2 : List Value} (h1 : w.ownsRow b1 e1 s1 v1 n1 x1) (h2 : w.ownsRow b2 e2 s2 v2 n2 x2) (hne : e1 ≠ e2) (hg : w.grownBy w' v2.ownBlock) : w'.ownsRow b1 e1 s1 v1 n1 x1 :=
 own_heap h1 fun b hb => hg.block b (h1.lt b hb).2 (own_apart h1 h2 hne b hb)
theorem own_bk {W : World} {base g n cap : Nat} {e : TypeId} {s : Nat} {xs : List Value} (h : W.ownsRow base e s (.slice (some ⟨g, 0, none⟩) n cap) n xs) : ∃ cur, Blk W g cur e ∧ cur.size = cap * s ∧ cur.toList.take (n * s) = xs ∧ base ≤ g ∧ n ≤ cap ∧ cap ≤ maxLen := by
 rcases h.2 with ⟨h1, -⟩ | ⟨g', cap', cur, h1, h2, h3, h4, h5, h6, h7⟩
 ·cases h1
 ·cases h1
  exact ⟨cur, h3, h6, h7, h2, h4, h5⟩
theorem compactS_own {base : Nat} (v : Value) (zs : List Int) (w : World) (h : w.ownsRow base 3 1 v (sorted zs).length ((sorted zs).map (Value.int .i64))) (hn : (sorted zs).length < 4611686018427387904) :
  Calls Tryz.prog 75 #[v] w fun e w' => ∃ v', e = .returned v' ∧ w'.ownsRow base 3 1 v' (cutsL zs).length ((cutsL zs).map (Value.int .i64)) ∧ w.grownBy w' v.ownBlock := by
 refine (compact_own v (sorted zs) w h hn).mono ?_
 rintro e w' ⟨v', h1, h2, h3, -⟩
 unfold cutsL
 exact ⟨v', h1, h2, h3⟩

set_option maxRecDepth 100000 in
set_option maxHeartbeats 16000000 in
theorem supOf_c (x : Dt) (hv : DtV x) (hs : countS x.rs ≤ 16) (d : Nat) (hd : d < x.dm.length) (w : World) (h : DtAt w x) :
  Calls Tryz.prog 37 #[(.agg #[.string x.q.name, x.q.u, x.q.t, .int .i64 x.q.cover, .int .i64 x.q.agg, .int .i64 x.q.poker, x.lv, x.rv, x.pv, x.dv, .int .i64 x.ru.num, .int .i64 x.ru.den, .int .i64 x.ru.pn, .int .i64 x.ru.pd, .int .i64 x.ru.bn, .int .i64 x.ru.bd, .int .i64 x.ru.ln, .int .i64 x.ru.ld, .int .i64 x.ru.least]), .int .i64 d] w (fun e W => ∃ v, e = .returned (.tuple #[v, .int .i64 0]) ∧ W.ownsRow w.heap.size 109 2 v (supS (supI x x.dm[d])).length (pairCells (supS (supI x x.dm[d]))) ∧ ∃ y, W = ext w y) := by
 have HX := hd0 h
 have HSU := hd0 (fun w h => suppliers_c x hv d hd w h)
 have hln : (supI x x.dm[d]).length ≤ 16 := by have := supI_len x x.dm[d]; omega
 have hok : ∀ c ∈ supI x x.dm[d], ChOk x c := fun c hc => (supI_ok x hv x.dm[d] c hc).1
 have hst := supS_ok hok (by omega)
 have hsh : shortF (supS (supI x x.dm[d])) 0 = supS (supI x x.dm[d]) := shortF_steps _ _ _
 generalize supI x x.dm[d] = S at *
 have HST := hd0 (fun v w hl => StepsShort_c (supS S) v hst w hl)
 rw [hsh] at HST
 have har : ∀ c ∈ S, 0 ≤ c.area ∧ c.area ≤ 130000 := fun c hc => by have := (hok c hc).area; omega
 have HVL := hd0 (fun v p w hl => value_c S v p har (by omega) w hl)
 have hsl := hst.len
 have HSL := hd0 (show (supS S).length ≤ 32 by have h1 := stepsF_len (valueI S) (cutsL (placesI S)) 0; have h2 := cutsL_length (placesI S); have h3 := placesI_len S; unfold supS; omega)
 clear h hv hok hst hsh har hsl
 go_enter Tryz.func37, Tryz.ntmps37
 go_upto_region 1 with fail
 refine world_mask (fun W => Below w.heap.size w W ∧ Blk W w.heap.size (dtC x) 34) _ ⟨gro, Blk.new _ _ _⟩ ?_
 rintro W2 ⟨hb2, K2⟩
 have HB2 := hd0 hb2
 have HK2 := hd0 K2
 clear hb2 K2
 go_upto_region 5 with (first | (refine wpList_load_row rfl _ _ rfl _ rfl _ (dtC x) _ _ HK2.out rfl rfl rfl ?_) | (go_at_call 58; refine (HSU.out _ (HX.out.below HB2.out)).mono ?_; rintro e w' ⟨rv, lv, Wc, rfl, hbc, hrc, hch⟩; have hbw := hbc.trans (Below.mono hch.below hbc.size); obtain ⟨ra, rc, erv, -⟩ := hrc.shape; subst erv; have hcr := hch.read; obtain ⟨la, lc, elv, -⟩ := hcr.shape; subst elv; have HBW := hd0 hbw; have HCR := hd0 hcr; clear hbc hrc hch hbw hcr))
 refine world_mask (fun W => Below w.heap.size w W ∧ ChR W (.slice la S.length lc) S) _ ⟨HB2.out.trans (Below.mono HBW.out HB2.out.size), HCR.out⟩ ?_
 clear HB2 HK2 HBW HCR
 rintro W1 ⟨hb1, R1⟩
 have HB1 := hd0 hb1
 have HR1 := hd0 R1
 obtain ⟨la', lc', ela, -, -, n4⟩ := R1
 cases ela
 have HN4 := hd0 n4
 clear hb1 n4
 go_wp2_with fail
 go_loopw [29, 9] (fun i v wr => ∃ k : Nat, k ≤ S.length ∧ i = .int .i64 k ∧ Below W1.heap.size W1 wr ∧ wr.ownsRow W1.heap.size 3 1 v (placesI (S.take k)).length ((placesI (S.take k)).map (Value.int .i64))) (fun i _ _ => S.length - (intOf i).toNat)
 case atStart => exact ⟨0, Nat.zero_le _, rfl, Below.refl _ _, World.ownsRow_nil _ _ _ _⟩
 case round =>
  obtain ⟨W3, rfl⟩ : ∃ W : World, W = wr := ⟨_, rfl⟩
  obtain ⟨k, hk, rfl, hb3, hrow⟩ := hrel
  have hpl := placesI_len (S.take k)
  have hpl2 : (S.take k).length ≤ 16 := by rw [List.length_take]; omega
  have HB3 := hd0 hb3
  have HROW := hd0 hrow
  by_cases hlt : k < S.length
  ·obtain ⟨bl, ol, u, ela, hca, hu⟩ := HN4.out k hlt
   subst ela
   have HT := hd0 (show placesI (S.take (k + 1)) = placesI (S.take k) ++ [S[k].lo, S[k].hi] by rw [List.take_succ_eq_append_getElem hlt, placesI_snoc])
   generalize S[k] = C at *
   obtain ⟨bars, lo, hi, is, area⟩ := C
   obtain ⟨ab, cb, eu, -, -, -⟩ := hu.shape
   simp only at eu
   subst eu
   obtain ⟨c0, c1, c2, c3, c4⟩ := hca.below hb3
   simp only at c0 c1 c2 c3 c4
   have i1 : (0 : Int) ≤ (k : Int) := by omega
   have i2 : (k : Int) < (S.length : Int) := by omega
   generalize bars.length = nb at *
   have hg11 : W1.heap.size ≤ W3.heap.size := hb3.size
   have HPL := hd0 (show (placesI (S.take k)).length ≤ 32 by omega)
   generalize placesI (S.take k) = R at *
   obtain ⟨av, cv, rfl, -, hcv, -⟩ := own_shape hrow
   have hcv3 : cv ≤ 9223372036854775807 := hcv
   clear hca hu hb3 hrow hpl hpl2 hcv
   go_upto_region 8 with fail
   refine world_mask (fun W => Below W3.heap.size W3 W ∧ Blk W W3.heap.size #[.slice ab nb cb, .int .i64 lo, .int .i64 hi, .bool is, .int .i64 area] 79) _ ⟨gro, Blk.new _ _ _⟩ ?_
   clear c0 c1 c2 c3 c4
   rintro W4 ⟨hb4, K4⟩
   have HB4 := hd0 hb4
   have HRW2 := hd0 (own_grows HROW.out hb4)
   have hsz4 := hb4.size
   have c1 := K4.cell 1
   have c2 := K4.cell 2
   clear hb4 K4
   go_wp2_with (at_builtin; refine app_own_b rfl _ _ 48 rfl 3 (.int .i64 0) 1 8 Tryz.underlying48 info_int rfl (by decide) W1.heap.size (.slice av R.length cv) R.length (R.map (Value.int .i64)) _ rfl (HRW2.out.alloc _) _ 2 2 [.int .i64 lo, .int .i64 hi] rfl rfl (cells_new ?_ _ _ _ rfl) (by simp [Value.oneCell']) (by have := HPL.out; omega) (by decide) ?_ ?_; (first | rfl | simp [size_ext]); (simp only [World.size_alloc]; omega); intro v' w1 hown' hgrow; have HO2 := hd0 hown'; obtain ⟨a', c', rfl, _, hc2, -⟩ := own_shape hown'; have hc3 : c' ≤ 9223372036854775807 := hc2; have HGR := hd0 hgrow; clear hown' hgrow hc2)
   go_roundw
   case rel => exact ⟨k + 1, by omega, by go_num, (grow_alloc _ (HB3.out.trans (Below.mono HB4.out HB3.out.size))).grown HGR.out (by simp only [World.size_alloc]; omega) (fun j e => (HROW.out.lt j e).1), by rw [HT.out, List.length_append, List.map_append]; exact HO2.out⟩
   case measure => simp [intOf]; omega
  ·obtain rfl : k = S.length := by omega
   rw [List.take_length] at hrow hpl hpl2 HROW
   clear HROW hb3
   have HPL := hd0 (show (placesI S).length ≤ 32 by omega)
   obtain ⟨av, cv, rfl, -, hcv, -⟩ := own_shape hrow
   have HROW := hd0 hrow
   clear hrow hpl hpl2 hcv hk hlt
   go_upto_region 11 with (go_at_call 26; refine (sort_own _ (placesI S) _ HROW.out (by have := HPL.out; omega)).mono ?_; rintro e w' ⟨rfl, hown2, hg2⟩; have HO2 := hd0 hown2; have HB4 := hd0 (HB3.out.grown hg2 HB3.out.size (own_row HROW.out)); clear hown2 hg2)
   have hls := length_sorted (placesI S)
   have HLS := hd0 (show (sorted (placesI S)).length ≤ 32 by have := HPL.out; omega)
   clear hls HROW
   go_upto_region 14 with (go_at_call 75; refine (compactS_own _ (placesI S) _ HO2.out (by have := HLS.out; omega)).mono ?_; rintro e w2 ⟨v2, rfl, hown3, hg3⟩; have HB5 := hd0 (HB4.out.grown hg3 HB4.out.size (own_row HO2.out)); have HO3 := hd0 hown3; obtain ⟨a3, c3, ev2, -, hc3, -⟩ := own_shape hown3; subst ev2; clear hown3 hg3)
   have hcl := cutsL_length (placesI S)
   have hcl2 : (cutsL (placesI S)).length ≤ 32 := by have := HPL.out; omega
   have HSD := hd0 (show supS S = stepsF (valueI S) (cutsL (placesI S)) 0 from rfl)
   rw [HSD.out] at HST HSL
   generalize cutsL (placesI S) = Q at *
   clear HO2 HB4 HB3 hcl HLS HPL
   go_loopw [48, 12, 13] (fun i v la wr => ∃ k : Nat, k ≤ Q.length ∧ i = .int .i64 k ∧ la = .int .i64 ((Q.take k).foldl (fun _ q => valueI S q) 0) ∧ Below W1.heap.size W1 wr ∧ wr.ownsRow W1.heap.size 3 1 (.slice a3 Q.length c3) Q.length (Q.map (Value.int .i64)) ∧ wr.ownsRow W1.heap.size 109 2 v (stepsF (valueI S) (Q.take k) 0).length (pairCells (stepsF (valueI S) (Q.take k) 0))) (fun i _ _ _ => Q.length - (intOf i).toNat)
   case atStart => exact ⟨0, Nat.zero_le _, rfl, rfl, HB5.out, HO3.out, World.ownsRow_nil _ _ _ _⟩
   case round =>
    obtain ⟨W6, rfl⟩ : ∃ W : World, W = wr := ⟨_, rfl⟩
    clear HB5 HO3
    obtain ⟨k, hk, rfl, rfl, hb6, hq6, hrow⟩ := hrel
    have HB6 := hd0 hb6
    have HQ6 := hd0 hq6
    have HROW := hd0 hrow
    by_cases hlt : k < Q.length
    ·have hsn := stepsF_snoc (valueI S) (Q.take k) Q[k] 0
     have hfo := foldl_snoc (valueI S) (Q.take k) Q[k] 0
     rw [← List.take_succ_eq_append_getElem hlt] at hsn hfo
     have HSN := hd0 hsn
     have HFO := hd0 hfo
     have hq := Nts.of_own hq6 rfl
     obtain ⟨a3', c3', ea3, -, -, hq4⟩ := hq.shape
     cases ea3
     obtain ⟨bq, oq, ea, hcq⟩ := hq4 k hlt
     subst ea
     have hsl := stepsF_len (valueI S) (Q.take k) 0
     have hqt : (Q.take k).length ≤ 32 := by rw [List.length_take]; omega
     have HSLK := hd0 (show (stepsF (valueI S) (Q.take k) 0).length ≤ 32 by omega)
     clear hqt
     have i1 : (0 : Int) ≤ (k : Int) := by omega
     have i2 : (k : Int) < (Q.length : Int) := by omega
     generalize stepsF (valueI S) (Q.take k) 0 = R at *
     generalize (Q.take k).foldl (fun _ q => valueI S q) 0 = lz at *
     generalize Q[k] = q at *
     have HVQ := hd0 (fun w hl => HVL.out (.slice la S.length lc) q w hl)
     obtain ⟨n, hn⟩ : ∃ n, valueI S q = n := ⟨_, rfl⟩
     rw [hn] at HVQ HSN HFO
     obtain ⟨av, cv, rfl, -, hcv, -⟩ := own_shape hrow
     have hcv3 : cv ≤ 9223372036854775807 := hcv
     have hg11 : W1.heap.size ≤ W6.heap.size := hb6.size
     clear hn hsn hfo hq hq4 hsl hb6 hq6 hrow hcv
     by_cases hne : n = lz
     ·have d1 : (n != lz) = false := by simp [hne]
      go_wp2_with (go_at_call 24; refine (HVQ.out _ (HR1.out.below HB6.out)).mono ?_; rintro e w' ⟨rfl, y1, rfl⟩)
      go_roundw
      case rel => exact ⟨k + 1, by omega, by go_num, by rw [HFO.out, hne], grow_ext _ HB6.out, own_ext HQ6.out y1, by rw [HSN.out]; simp only [ne_eq, hne, not_true_eq_false, if_false, List.append_nil]; exact own_ext HROW.out y1⟩
      case measure => simp [intOf]; omega
     ·have d1 : (n != lz) = true := by simp [hne]
      have HNE := hd0 hne
      clear hne
      go_wp2_with (first | (go_at_call 24; refine (HVQ.out _ (HR1.out.below HB6.out)).mono ?_; rintro e w' ⟨rfl, y1, rfl⟩; have HB7 := hd0 (grow_ext y1 HB6.out); have HQ7 := hd0 (own_ext HQ6.out y1); have HR7 := hd0 (own_ext HROW.out y1)) | (at_builtin; refine app_own_b rfl _ _ 41 rfl 109 (.agg #[.int .i64 0, .int .i64 0]) 2 16 Tryz.underlying41 info_st rfl (by decide) W1.heap.size (.slice av R.length cv) R.length (pairCells R) _ rfl (HR7.out.alloc _) _ 1 1 (pairCells [(q, n)]) rfl rfl (cells_new ?_ _ _ _ rfl) (pairCells_one _) (by have := HSLK.out; omega) (by decide) ?_ ?_; (first | rfl | simp [size_ext]); (simp only [World.size_alloc, size_ext]; omega); intro v' w1 hown' hgrow; have HO2 := hd0 hown'; obtain ⟨a', c', rfl, _, hc2, -⟩ := own_shape hown'; have hc3' : c' ≤ 9223372036854775807 := hc2; have HGR := hd0 hgrow; clear hown' hgrow hc2))
      go_roundw
      case rel => exact ⟨k + 1, by omega, by go_num, by rw [HFO.out], (grow_alloc _ HB7.out).grown HGR.out (by simp only [World.size_alloc, size_ext]; omega) (fun j e => (HROW.out.lt j e).1), own_grownBy (HQ7.out.alloc _) (HR7.out.alloc _) (by decide) HGR.out, by rw [HSN.out]; simp only [ne_eq, HNE.out, not_false_eq_true, if_true, pairCells_app, List.length_append]; exact HO2.out⟩
      case measure => simp [intOf]; omega
    ·obtain rfl : k = Q.length := by omega
     rw [List.take_length] at hrow
     generalize stepsF (valueI S) Q 0 = R at *
     clear HQ6 HROW hb6 hq6
     obtain ⟨av, cv, rfl, -, hcv, -⟩ := own_shape hrow
     have HROW := hd0 hrow
     have d1 : decide ((200 : Int) < (R.length : Int)) = false := by have := HSL.out; simp; omega
     clear hrow hcv
     go_wp2_with (go_at_call 78; refine (HST.out _ _ (Prs.of_own HROW.out)).mono ?_; rintro e w' ⟨v3, rfl, hown3, y3, rfl⟩; obtain ⟨a4, c4, rfl, -, -, -⟩ := own_shape hown3; have HO4 := hd0 (own_mono (base' := w.heap.size) hown3 (Nat.le_trans HB1.out.size HB6.out.size)); clear hown3)
     go_ret2
     rw [HSD.out]
     exact ⟨_, rfl, HO4.out, ext_of (grow_ext _ (HB1.out.trans (Below.mono HB6.out HB1.out.size)))⟩


def supsI (x : Dt) : List (List (Int × Int)) := x.dm.map fun f => supS (supI x f)
structure StO (W1 W : World) (v : Value) (L : List (List (Int × Int))) : Prop where
 below : Below W1.heap.size W1 W
 row : ∃ vs : List Value, W.ownsRow W1.heap.size 41 1 v L.length vs ∧ vs.length = L.length ∧ ∀ i (h : i < L.length) (h' : i < vs.length), W.ownsRow W1.heap.size 109 2 vs[i] (L[i]).length (pairCells L[i])
theorem StO.nil (W : World) : StO W W (.slice none 0 0) [] := ⟨Below.refl _ _, [], World.ownsRow_nil _ _ _ _, rfl, fun i h => absurd h (Nat.not_lt_zero _)⟩
theorem StO.app {W1 W W' : World} {v v' vc : Value} {L : List (List (Int × Int))} {vs : List Value} {c : List (Int × Int)} (hb : Below W1.heap.size W1 W) (h1 : W.ownsRow W1.heap.size 41 1 v L.length vs) (h2 : vs.length = L.length)
  (h3 : ∀ i (h : i < L.length) (h' : i < vs.length), W.ownsRow W1.heap.size 109 2 vs[i] (L[i]).length (pairCells L[i])) (hc : W.ownsRow W1.heap.size 109 2 vc c.length (pairCells c))
  (hown : W'.ownsRow W1.heap.size 41 1 v' (L.length + 1) (vs ++ [vc])) (hg : W.grownBy W' v.ownBlock) : StO W1 W' v' (L ++ [c]) := by
 refine ⟨hb.grown hg hb.size (fun j e => (h1.lt j e).1), vs ++ [vc], by rw [List.length_append]; exact hown, by simp [h2], fun i hi hi' => ?_⟩
 by_cases hlt : i < L.length
 ·have e1 : (L ++ [c])[i] = L[i] := List.getElem_append_left hlt
  have e2 : (vs ++ [vc])[i] = vs[i]'(by omega) := List.getElem_append_left (by omega)
  rw [e1, e2]
  exact own_grownBy (h3 i hlt (by omega)) h1 (by decide) hg
 ·have hi2 : i = L.length := by simp at hi; omega
  subst hi2
  have e1 : (L ++ [c])[L.length] = c := by simp
  have e2 : (vs ++ [vc])[L.length] = vc := by simp [← h2]
  rw [e1, e2]
  exact own_grownBy hc h1 (by decide) hg
def StsR (w : World) (v : Value) (L : List (List (Int × Int))) : Prop :=
 ∃ a cap, v = .slice a L.length cap ∧ L.length ≤ cap ∧ cap ≤ 9223372036854775807 ∧ ∀ i (h : i < L.length), ∃ b off u, a = some ⟨b, off, none⟩ ∧ w.cell? ⟨b, off + i, none⟩ = some u ∧ Prs w u L[i]
theorem StsR.below {w w' : World} {v : Value} {L : List (List (Int × Int))} (h : StsR w v L) (hb : Below w.heap.size w w') : StsR w' v L := by
 obtain ⟨a, cap, h1, h2, h3, h4⟩ := h
 obtain ⟨y, rfl⟩ := ext_of hb
 exact ⟨a, cap, h1, h2, h3, fun i hi => let ⟨b, off, u, e, hr, hx⟩ := h4 i hi; ⟨b, off, u, e, cell_ext_some hr y, hx.ext y⟩⟩
theorem StsR.shape {w : World} {v : Value} {L : List (List (Int × Int))} (h : StsR w v L) : ∃ a cap, v = .slice a L.length cap ∧ L.length ≤ cap ∧ cap ≤ 9223372036854775807 ∧ ∀ i (h : i < L.length), ∃ b off u, a = some ⟨b, off, none⟩ ∧ w.cell? ⟨b, off + i, none⟩ = some u ∧ Prs w u L[i] := h
theorem StO.read {W1 W : World} {v : Value} {L : List (List (Int × Int))} (h : StO W1 W v L) : StsR W v L := by
 obtain ⟨vs, h1, h2, h3⟩ := h.row
 obtain ⟨a, cap, rfl, q1, q2, q3⟩ := own_shape h1
 unfold maxLen at q2
 refine ⟨a, cap, rfl, q1, by omega, fun i hi => ?_⟩
 obtain ⟨g, rfl, _, hc⟩ := q3 (by omega)
 refine ⟨g, 0, vs[i]'(by omega), rfl, by rw [Nat.zero_add, hc _ (by omega)]; simp [show i < vs.length by omega], Prs.of_own (h3 i hi (by omega))⟩
def StW (M : Nat) (W : World) (v : Value) (L : List (List (Int × Int))) : Prop :=
 ∃ vs : List Value, W.ownsRow M 41 1 v L.length vs ∧ vs.length = L.length ∧ ∀ i (h : i < L.length) (h' : i < vs.length), W.ownsRow M 109 2 vs[i] (L[i]).length (pairCells L[i])
theorem StO.w {W1 W : World} {v : Value} {L : List (List (Int × Int))} (h : StO W1 W v L) {M : Nat} (hM : M ≤ W1.heap.size) : StW M W v L := by
 obtain ⟨vs, h1, h2, h3⟩ := h.row
 exact ⟨vs, own_mono h1 hM, h2, fun i h h' => own_mono (h3 i h h') hM⟩
theorem StW.heap {M : Nat} {W W' : World} {v : Value} {L : List (List (Int × Int))} (h : StW M W v L) (hb : ∀ b, M ≤ b → b < W.heap.size → W'.heap[b]? = W.heap[b]?) : StW M W' v L := by
 obtain ⟨vs, h1, h2, h3⟩ := h
 exact ⟨vs, own_heap h1 (fun b e => hb b (h1.lt b e).1 (h1.lt b e).2), h2, fun i h h' => own_heap (h3 i h h') (fun b e => hb b ((h3 i h h').lt b e).1 ((h3 i h h').lt b e).2)⟩
theorem StW.below {M : Nat} {W W' : World} {v : Value} {L : List (List (Int × Int))} (h : StW M W v L) (hb : Below W.heap.size W W') : StW M W' v L := h.heap fun b _ h2 => hb.block b h2
theorem StW.row {M : Nat} {W : World} {v : Value} {L : List (List (Int × Int))} (h : StW M W v L) {g : Nat} (hg : g < M) (cs : Array Value) : StW M (W.setRow g cs) v L := h.heap fun b h1 _ => setRow_other W g b cs (by omega)
theorem StW.other {M : Nat} {W W' : World} {v : Value} {L : List (List (Int × Int))} (h : StW M W v L) {g : Nat} {cs : Array Value} {T : TypeId} (hb : Blk W g cs T) (n1 : T ≠ 41) (n2 : T ≠ 109) (hw : ∀ b, b ≠ g → W'.heap[b]? = W.heap[b]?) : StW M W' v L := by
 obtain ⟨vs, h1, h2, h3⟩ := h
 exact ⟨vs, own_heap h1 (fun b e => hw b (fun e2 => (hb.ne_row h1 n1) (by rw [e, e2]))), h2, fun i h h' => own_heap (h3 i h h') (fun b e => hw b (fun e2 => (hb.ne_row (h3 i h h') n2) (by rw [e, e2])))⟩
theorem StW.read {M : Nat} {W : World} {v : Value} {L : List (List (Int × Int))} (h : StW M W v L) : StsR W v L := by
 obtain ⟨vs, h1, h2, h3⟩ := h
 obtain ⟨a, cap, rfl, q1, q2, q3⟩ := own_shape h1
 unfold maxLen at q2
 refine ⟨a, cap, rfl, q1, by omega, fun i hi => ?_⟩
 obtain ⟨g, rfl, _, hc⟩ := q3 (by omega)
 refine ⟨g, 0, vs[i]'(by omega), rfl, by rw [Nat.zero_add, hc _ (by omega)]; simp [show i < vs.length by omega], Prs.of_own (h3 i hi (by omega))⟩
theorem info_sst : (Tryz.prog.info? 41).map (fun i => (i.zero, i.size, i.bytes)) = some (some (.slice none 0 0), 1, 24) := by kernel_rfl
set_option maxRecDepth 100000 in
set_option maxHeartbeats 16000000 in
theorem supAll_c (x : Dt) (hv : DtV x) (hs : countS x.rs ≤ 16) (w : World) (h : DtAt w x) :
  Calls Tryz.prog 33 #[(.agg #[.string x.q.name, x.q.u, x.q.t, .int .i64 x.q.cover, .int .i64 x.q.agg, .int .i64 x.q.poker, x.lv, x.rv, x.pv, x.dv, .int .i64 x.ru.num, .int .i64 x.ru.den, .int .i64 x.ru.pn, .int .i64 x.ru.pd, .int .i64 x.ru.bn, .int .i64 x.ru.bd, .int .i64 x.ru.ln, .int .i64 x.ru.ld, .int .i64 x.ru.least])] w (fun e W => ∃ v, e = .returned (.tuple #[v, .int .i64 0]) ∧ StW w.heap.size W v (supsI x) ∧ ∃ y, W = ext w y) := by
 have HX := hd0 h
 have HLV := hd0 (fun w h => lapValid_c x hv w h)
 have HOF := hd0 (fun d hd w h => supOf_c x hv hs d hd w h)
 have hdl := hv.dlen
 obtain ⟨da, dc, edv, -⟩ := h.dm.shape
 have HDV := hd0 edv
 clear h hv hs edv
 go_enter Tryz.func33, Tryz.ntmps33
 go_upto_region 1 with fail
 refine world_mask (fun W => Below w.heap.size w W ∧ Blk W w.heap.size (dtC x) 34) _ ⟨gro, Blk.new _ _ _⟩ ?_
 rintro W2 ⟨hb2, K2⟩
 have HB2 := hd0 hb2
 have HK2 := hd0 K2
 clear hb2 K2
 go_upto_region 4 with (first | (refine wpList_load_row rfl _ _ rfl _ rfl _ (dtC x) _ _ HK2.out rfl rfl rfl ?_) | (go_at_call 27; refine (HLV.out _ (HX.out.below HB2.out)).mono ?_; rintro e w' ⟨rfl, x1, rfl⟩))
 refine world_mask (fun W => Below w.heap.size w W ∧ Blk W w.heap.size (dtC x) 34) _ ⟨grob HB2.out, HK2.out.below gro⟩ ?_
 clear HB2 HK2
 rintro W1 ⟨hb1, K1⟩
 have HB1 := hd0 hb1
 have HK1 := hd0 K1
 have e9 : W1.cell? ⟨w.heap.size, 9, none⟩ = some (.slice da x.dm.length dc) := (K1.cell 9).trans (congrArg some HDV.out)
 clear hb1 K1
 go_wp2_with fail
 go_loopw [14, 4] (fun i v wr => ∃ k : Nat, k ≤ x.dm.length ∧ i = .int .i64 k ∧ StO W1 wr v ((supsI x).take k)) (fun i _ _ => x.dm.length - (intOf i).toNat)
 case atStart => exact ⟨0, Nat.zero_le _, rfl, StO.nil _⟩
 case round =>
  obtain ⟨W3, rfl⟩ : ∃ W : World, W = wr := ⟨_, rfl⟩
  clear e9
  obtain ⟨k, hk, rfl, hst⟩ := hrel
  have hb3 := hst.below
  have htl : ((supsI x).take k).length = k := by rw [List.length_take]; unfold supsI; rw [List.length_map]; omega
  obtain ⟨LC, hLC⟩ : ∃ L, (supsI x).take k = L := ⟨_, rfl⟩
  rw [hLC] at hst htl
  have HLC := hd0 hLC
  clear hLC
  obtain ⟨vs, hrow, hvl, hin⟩ := hst.row
  have HB3 := hd0 hb3
  have HROW := hd0 hrow
  have HVL := hd0 hvl
  have HIN := hd0 hin
  have HTL := hd0 htl
  obtain ⟨av, cv, rfl, -, hcv, -⟩ := own_shape hrow
  have hcv3 : cv ≤ 9223372036854775807 := hcv
  have hg11 : W1.heap.size ≤ W3.heap.size := hb3.size
  by_cases hlt : k < x.dm.length
  ·have HT := hd0 (show (supsI x).take (k + 1) = (supsI x).take k ++ [supS (supI x (x.dm[k]'hlt))] by
    have hk2 : k < (supsI x).length := by unfold supsI; rw [List.length_map]; exact hlt
    have e1 : (supsI x)[k]'hk2 = supS (supI x (x.dm[k]'hlt)) := by simp [supsI]
    rw [List.take_succ_eq_append_getElem hk2, e1])
   have HOK := hd0 (fun w h => HOF.out k hlt w h)
   generalize supS (supI x x.dm[k]) = R at *
   have HK3 := hd0 (HK1.out.below hb3)
   have HBW := hd0 (HB1.out.trans (Below.mono hb3 HB1.out.size))
   have i1 : (0 : Int) ≤ (k : Int) := by omega
   have i2 : (k : Int) < (x.dm.length : Int) := by omega
   clear hst hb3 htl hrow hvl hin hcv
   go_wp2_with (first | (refine wpList_load_row rfl _ _ rfl _ rfl _ (dtC x) _ _ HK3.out rfl rfl rfl ?_) | (go_at_call 37; refine (HOK.out _ (HX.out.below HBW.out)).mono ?_; rintro e w' ⟨vo, rfl, hown, y1, rfl⟩; obtain ⟨ao, co, rfl, -, -, -⟩ := own_shape hown; have HO1 := hd0 (own_mono (base' := W1.heap.size) hown hg11); have HB4 := hd0 (grow_ext y1 HB3.out); have HRW2 := hd0 (own_ext HROW.out y1); clear hown) | (at_builtin; refine app_own_b rfl _ _ 62 rfl 41 (.slice none 0 0) 1 24 Tryz.underlying62 info_sst rfl (by decide) W1.heap.size (.slice av LC.length cv) LC.length vs _ rfl (HRW2.out.alloc _) _ 1 1 [.slice ao R.length co] rfl rfl (cells_new ?_ _ _ _ rfl) (by simp [Value.oneCell']) (by have := HTL.out; omega) (by decide) ?_ ?_; (first | rfl | simp [size_ext]); (simp only [World.size_alloc, size_ext]; omega); intro v' w1 hown' hgrow; have HO2 := hd0 hown'; obtain ⟨a', c', rfl, -, hc2, -⟩ := own_shape hown'; have hc3 : c' ≤ 9223372036854775807 := hc2; have HGR := hd0 hgrow; clear hown' hgrow hc2))
   go_roundw
   case rel => exact ⟨k + 1, by omega, by go_num, by rw [HT.out, HLC.out]; exact StO.app (grow_alloc _ HB4.out) (HRW2.out.alloc _) HVL.out (fun i h h' => (own_ext (HIN.out i h h') y1).alloc _) (HO1.out.alloc _) HO2.out HGR.out⟩
   case measure => simp [intOf]; omega
  ·obtain rfl : k = x.dm.length := by omega
   have hall : (supsI x).take x.dm.length = supsI x := by unfold supsI; rw [List.take_of_length_le (by simp)]
   have HST := hd0 (show StW w.heap.size W3 (.slice av LC.length cv) (supsI x) by have h9 := hst.w HB1.out.size; rw [← HLC.out, hall] at h9 ⊢; exact h9)
   clear hst hall hb3 htl hrow hvl hin hcv
   go_wp2
   go_ret2
   exact ⟨_, rfl, HST.out, ext_of (HB1.out.trans (Below.mono HB3.out HB1.out.size))⟩
set_option maxHeartbeats 4000000
set_option maxRecDepth 100000

theorem indexNone_ss (F : Nat) (hE : Enters F) (caps : Array Value) (l : List (List (Int × Int))) (v : Value) (w : World) (hl : StsR w v l)
  (hf : ∀ b u x, b ∈ l → Prs (ext w x) u b → Calls Tryz.prog F (#[u] ++ caps) (ext w x) (Ret (ext w x) (.bool false))) :
  Calls Tryz.prog 137 #[v, .func (.func F) #[] caps] w (Ret w (.int .i64 (-1))) := by
 obtain ⟨a, cap, rfl, h2, h3, h4⟩ := hl
 have HF := hd0 hf
 have hn : l.length ≤ 9223372036854775807 := by omega
 have H4 := hd0 h4
 clear hf h4
 go_enter Tryz.func137, Tryz.ntmps137
 go_wp2_with fail
 go_loopw [8, 5] (fun i j wr => ∃ k : Nat, k ≤ l.length ∧ i = .int .i64 k ∧ (∃ x, wr = ext w x)) (fun i j _ => l.length - (intOf i).toNat)
 case atStart => exact ⟨0, by omega, rfl, ext_of (Below.refl _ _)⟩
 case round =>
  obtain ⟨k, hk, rfl, ⟨x, rfl⟩⟩ := hrel
  by_cases hlt : k < l.length
  ·obtain ⟨b, off, u, rfl, hb, hu⟩ := (H4.out k hlt)
   have c0 := cell_ext_some hb x
   obtain ⟨ua, uc, rfl, -, -, -⟩ := hu.shape
   have HC := hd0 (HF.out l[k] _ x (List.getElem_mem hlt) (hu.ext x))
   have q1 : (0 : Int) ≤ (k : Int) := by omega
   have q2 : (k : Int) < (l.length : Int) := by omega
   obtain ⟨n, hn2⟩ : ∃ n, (l[k]).length = n := ⟨_, rfl⟩
   rw [hn2] at c0 HC
   clear hb hu hn2
   go_wp2_with fail
   rw [show ∀ (a : Array Value) (w : World), (callFunc F a).run Tryz.prog w = .ok (.enter F a) w from hE, Oper.upon_enter]
   refine HC.out.mono ?_
   rintro e w' ⟨rfl, y, rfl⟩
   clear c0
   go_wp2
   go_roundw
   case rel => exact ⟨k + 1, by omega, by go_num, ⟨_, ext_ext _ _ _⟩⟩
   case measure => simp [intOf]; omega
  ·go_wp2
   go_ret
   exact Ret.of gro
theorem containsNone_ss (F : Nat) (hE : Enters F) (caps : Array Value) (l : List (List (Int × Int))) (v : Value) (w : World) (hl : StsR w v l)
  (hf : ∀ b u x, b ∈ l → Prs (ext w x) u b → Calls Tryz.prog F (#[u] ++ caps) (ext w x) (Ret (ext w x) (.bool false))) :
  Calls Tryz.prog 81 #[v, .func (.func F) #[] caps] w (Ret w (.bool false)) := by
 have HI := hd0 (indexNone_ss F hE caps l v w hl hf)
 obtain ⟨a, cap, rfl, -, -, -⟩ := hl.shape
 clear hf hl
 go_enter Tryz.func81, Tryz.ntmps81
 go_wp2_with fail
 refine HI.out.mono ?_; rintro e w' ⟨rfl, x, rfl⟩
 go_wp2
 go_ret
 exact Ret.of gro
theorem formed1_c (l : List (Int × Int)) (u : Value) (h : StOk l) (w : World) (hu : Prs w u l) : Calls Tryz.prog 82 #[u] w (Ret w (.bool false)) := by
 have HV := hd0 (stepsValid_ok l u h w hu)
 obtain ⟨a, cap, rfl, -, -, -⟩ := hu.shape
 clear hu h
 go_enter Tryz.func82, Tryz.ntmps82
 go_wp2_with fail
 go_at_call 56; refine (HV.out).mono ?_; rintro e w' ⟨rfl, x1, rfl⟩
 go_wp2
 go_ret
 exact Ret.of gro
theorem enters_formed1 : Enters 82 := enters_of Tryz.func82 (by decide) (by simp [Tryz.f82])
theorem equalFunc_ss (l : List (List (Int × Int))) (v v' : Value) (w : World) (h1 : StsR w v l) (h2 : StsR w v' l) :
  Calls Tryz.prog 83 #[v, v', .func (.func 38) #[] #[]] w (Ret w (.bool true)) := by
 obtain ⟨a, cap, rfl, hc1, hc2, hp⟩ := h1.shape
 obtain ⟨b, cap', rfl, hd1, hd2, hq⟩ := h2.shape
 have HP := hd0 hp
 have HQ := hd0 hq
 clear hp hq h1 h2
 have hb : ((l.length : Int) == (l.length : Int)) = true := by simp
 have hb' : ((l.length : Int) != (l.length : Int)) = false := by simp
 go_enter Tryz.func83, Tryz.ntmps83
 go_wp2_with fail
 go_loopw [17] (fun i wr => ∃ k : Nat, k ≤ l.length ∧ i = .int .i64 k ∧ (∃ x, wr = ext w x)) (fun i _ => l.length - (intOf i).toNat)
 case atStart => exact ⟨0, Nat.zero_le _, rfl, ext_of gro⟩
 case round =>
  obtain ⟨k, hk, rfl, ⟨x, rfl⟩⟩ := hrel
  by_cases hlt : k < l.length
  ·obtain ⟨g, o, u, rfl, c0, hu⟩ := HP.out k hlt
   obtain ⟨g', o', u', rfl, d0, hu'⟩ := HQ.out k hlt
   have c0 := cell_ext_some c0 x
   have d0 := cell_ext_some d0 x
   have HE := hd0 (equalSts_c l[k] u u' (ext w x) (hu.ext x) (hu'.ext x))
   obtain ⟨ua, uc, rfl, -, -, -⟩ := hu.shape
   obtain ⟨ua', uc', rfl, -, -, -⟩ := hu'.shape
   have i1 : (0 : Int) ≤ (k : Int) := by omega
   have i2 : (k : Int) < (l.length : Int) := by omega
   obtain ⟨n, hn2⟩ : ∃ n, (l[k]).length = n := ⟨_, rfl⟩
   rw [hn2] at c0 d0 HE
   clear hu hu' hn2
   go_wp2_with fail
   refine HE.out.mono ?_
   rintro e w' ⟨rfl, y, rfl⟩
   clear c0 d0
   go_wp2
   go_roundw
   case rel => exact ⟨k + 1, by omega, by go_num, ext_of gro⟩
   case measure => simp [intOf]; omega
  ·obtain rfl : k = l.length := by omega
   go_wp2
   go_ret
   exact Ret.of gro
theorem claimEqual_c (l : List (List (Int × Int))) (v v' : Value) (w : World) (h1 : StsR w v l) (h2 : StsR w v' l) : Calls Tryz.prog 42 #[v, v'] w (Ret w (.bool true)) := by
 have HE := hd0 (equalFunc_ss l v v' w h1 h2)
 obtain ⟨a, cap, rfl, -, -, -⟩ := h1.shape
 obtain ⟨b, cap', rfl, -, -, -⟩ := h2.shape
 clear h1 h2
 go_enter Tryz.func42, Tryz.ntmps42
 go_wp2_with fail
 go_at_call 83; refine (HE.out).mono ?_; rintro e w' ⟨rfl, x1, rfl⟩
 go_wp2
 go_ret
 exact Ret.of gro
def ClNone (f s q : Int) : Prop := f = -1 ∧ s = -1 ∧ q = -1
def ClPair (f s q : Int) : Prop := 0 ≤ f ∧ f < s ∧ s < 2000 ∧ 0 ≤ q ∧ q ≤ 1125899906842624
theorem claimNone_y (a : Option Addr) (n c : Nat) (w : World) : Calls Tryz.prog 43 #[.agg #[.slice a n c, .int .i64 (-1), .int .i64 (-1), .int .i64 (-1)]] w (Ret w (.bool true)) := by
 go_enter Tryz.func43, Tryz.ntmps43
 go_wp2
 go_ret
 exact Ret.of gro
theorem claimNone_n (a : Option Addr) (n c : Nat) (f s q : Int) (h : 0 ≤ f) (w : World) : Calls Tryz.prog 43 #[.agg #[.slice a n c, .int .i64 f, .int .i64 s, .int .i64 q]] w (Ret w (.bool false)) := by
 have d1 : (f == -1) = false := by simp; omega
 clear h
 go_enter Tryz.func43, Tryz.ntmps43
 go_wp2
 go_ret
 exact Ret.of gro
theorem formed_c (l : List (List (Int × Int))) (v : Value) (f s q : Int) (hl : l.length ≤ 20) (ho : ∀ b ∈ l, StOk b) (hc : ClNone f s q ∨ ClPair f s q) (w : World) (hv : StsR w v l) :
  Calls Tryz.prog 41 #[.agg #[v, .int .i64 f, .int .i64 s, .int .i64 q]] w (Ret w (.bool true)) := by
 have HV := hd0 hv
 have HCF := hd0 (fun (W : World) hW => containsNone_ss 82 enters_formed1 #[] l v W hW (fun b u x hb hu => formed1_c b u (ho b hb) _ hu))
 obtain ⟨a, cap, rfl, -, -, -⟩ := hv.shape
 have d1 : decide ((20 : Int) < (l.length : Int)) = false := by simp; omega
 clear hv ho hl
 rcases hc with ⟨rfl, rfl, rfl⟩ | ⟨h1, h2, h3, h4, h5⟩
 ·have HN := hd0 (fun w => claimNone_y a l.length cap w)
  go_enter Tryz.func41, Tryz.ntmps41
  go_wp2_with (first | (go_at_call 81; refine (HCF.out _ (HV.out.below gro)).mono ?_; rintro e w' ⟨rfl, x1, rfl⟩) | (go_at_call 43; refine (HN.out _).mono ?_; rintro e w' ⟨rfl, x2, rfl⟩))
  go_ret
  exact Ret.of gro
 ·have HN := hd0 (fun w => claimNone_n a l.length cap f s q h1 w)
  have d2 : decide (0 ≤ f) = true := by simpa using h1
  have d3 : decide (f < s) = true := by simpa using h2
  have d4 : decide (s < 2000) = true := by simpa using h3
  have d5 : decide (0 ≤ q) = true := by simpa using h4
  have d6 : decide (q ≤ 1125899906842624) = true := by simpa using h5
  clear h1 h2 h3 h4 h5
  go_enter Tryz.func41, Tryz.ntmps41
  go_wp2_with (first | (go_at_call 81; refine (HCF.out _ (HV.out.below gro)).mono ?_; rintro e w' ⟨rfl, x1, rfl⟩) | (go_at_call 43; refine (HN.out _).mono ?_; rintro e w' ⟨rfl, x2, rfl⟩))
  go_ret
  exact Ret.of gro
end Go.Proofs.YtkjljneehgmmaaaGreat

