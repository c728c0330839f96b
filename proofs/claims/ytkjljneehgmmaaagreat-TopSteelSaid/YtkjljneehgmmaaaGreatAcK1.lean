/- TtE, TtF in one text. -/
import Derived.Test.YtkjljneehgmmaaaGreatAbK7
import Derived.Test.YtkjljneehgmmaaaGreatAbK6
namespace Go.Proofs.YtkjljneehgmmaaaGreat
set_option linter.unusedVariables false
set_option linter.unusedSimpArgs false
open Go Go.RowKit
set_option maxRecDepth 20000
set_option maxHeartbeats 16000000
set_option maxRecDepth 100000

theorem secPlace_c (n : Int) (h : -1048576 ≤ n ∧ n ≤ 1048576) (w : World) : Calls Tryz.prog 74 #[.int .i64 n] w (Ret w (.bool true)) := by
 have d1 : decide (-1048576 ≤ n) = true := by simpa using h.1
 have d2 : decide (n ≤ 1048576) = true := by simpa using h.2
 clear h
 go_enter Tryz.func74, Tryz.ntmps74
 go_wp2
 go_ret
 exact Ret.of gro
theorem known_c (x : Dt) (hv : DtV x) (d : Nat) (hd : d < x.dm.length) (w : World) (h : DtAt w x) : Calls Tryz.prog 72 #[(.agg #[.string x.q.name, x.q.u, x.q.t, .int .i64 x.q.cover, .int .i64 x.q.agg, .int .i64 x.q.poker, x.lv, x.rv, x.pv, x.dv, .int .i64 x.ru.num, .int .i64 x.ru.den, .int .i64 x.ru.pn, .int .i64 x.ru.pd, .int .i64 x.ru.bn, .int .i64 x.ru.bd, .int .i64 x.ru.ln, .int .i64 x.ru.ld, .int .i64 x.ru.least]), .int .i64 d] w (Ret w (.int .i64 0)) := by
 have HX := hd0 h
 have HLV := hd0 (fun w h => lapValid_c x hv w h)
 obtain ⟨da, dc, edv, -⟩ := h.dm.shape
 have HDV := hd0 edv
 have q3 : decide ((d : Int) < 0) = false := by simp
 have q4 : decide ((x.dm.length : Int) ≤ (d : Int)) = false := by simp; omega
 clear h hv edv
 go_enter Tryz.func72, Tryz.ntmps72
 go_upto_region 1 with fail
 refine world_mask (fun W => Below w.heap.size w W ∧ Blk W w.heap.size (dtC x) 34) _ ⟨gro, Blk.new _ _ _⟩ ?_
 rintro W2 ⟨hb2, K2⟩
 have HB2 := hd0 hb2
 have HK2 := hd0 K2
 have e9 := fun y => ((K2.ext y).cell 9).trans (congrArg some HDV.out)
 clear hb2 K2
 go_wp2_with (first | (refine wpList_load_row rfl _ _ rfl _ rfl _ (dtC x) _ _ HK2.out rfl rfl rfl ?_) | (go_at_call 27; refine (HLV.out _ (HX.out.below HB2.out)).mono ?_; rintro e w' ⟨rfl, x1, rfl⟩; have e9' := e9 x1))
 go_ret
 exact Ret.of (grob HB2.out)
def pt1 (p : Pt4) : List Value := [.int .i64 p.lo, .int .i64 p.hi, .int .i64 p.there, .int .i64 p.wants]
def ptCells4 (L : List Pt4) : List Value := L.flatMap pt1
theorem ptCells4_app (a b : List Pt4) : ptCells4 (a ++ b) = ptCells4 a ++ ptCells4 b := by unfold ptCells4; rw [List.flatMap_append]
theorem ptCells4_get (P : List Pt4) (i : Nat) (h : i < P.length) (j : Nat) (hj : j < 4) : (ptCells4 P)[i * 4 + j]? = (pt1 P[i])[j]? := by
 induction P generalizing i with
 | nil => exact absurd h (Nat.not_lt_zero _)
 | cons p P ih =>
   have e : ptCells4 (p :: P) = pt1 p ++ ptCells4 P := rfl
   rw [e]
   cases i with
   | zero => rw [Nat.zero_mul, Nat.zero_add]; exact List.getElem?_append_left (by simpa [pt1] using hj)
   | succ i =>
     rw [List.getElem?_append_right (by simp [pt1]; omega)]
     have e2 : (i + 1) * 4 + j - (pt1 p).length = i * 4 + j := by simp [pt1]; omega
     rw [e2]
     exact ih i (by simpa using h)
def Pt4At (w : World) (b off : Nat) (p : Pt4) : Prop :=
 w.cell? ⟨b, off, none⟩ = some (.int .i64 p.lo) ∧ w.cell? ⟨b, off + 1, none⟩ = some (.int .i64 p.hi) ∧ w.cell? ⟨b, off + 2, none⟩ = some (.int .i64 p.there) ∧ w.cell? ⟨b, off + 3, none⟩ = some (.int .i64 p.wants)
theorem Pt4At.below {w w' : World} {b off : Nat} {p : Pt4} (h : Pt4At w b off p) (hb : Below w.heap.size w w') : Pt4At w' b off p := by
 obtain ⟨y, rfl⟩ := ext_of hb
 obtain ⟨h0, h1, h2, h3⟩ := h
 exact ⟨cell_ext_some h0 y, cell_ext_some h1 y, cell_ext_some h2 y, cell_ext_some h3 y⟩
def Pt4R (w : World) (v : Value) (L : List Pt4) : Prop :=
 ∃ a cap, v = .slice a L.length cap ∧ L.length ≤ cap ∧ cap ≤ 9223372036854775807 ∧ ∀ i (h : i < L.length), ∃ b off, a = some ⟨b, off, none⟩ ∧ Pt4At w b (off + i * 4) L[i]
theorem Pt4R.below {w w' : World} {v : Value} {L : List Pt4} (h : Pt4R w v L) (hb : Below w.heap.size w w') : Pt4R w' v L := by
 obtain ⟨a, cap, h1, h2, h3, h4⟩ := h
 exact ⟨a, cap, h1, h2, h3, fun i hi => let ⟨b, off, e, hr⟩ := h4 i hi; ⟨b, off, e, hr.below hb⟩⟩
theorem Pt4R.shape {w : World} {v : Value} {L : List Pt4} (h : Pt4R w v L) : ∃ a cap, v = .slice a L.length cap ∧ L.length ≤ cap ∧ cap ≤ 9223372036854775807 ∧ ∀ i (h : i < L.length), ∃ b off, a = some ⟨b, off, none⟩ ∧ Pt4At w b (off + i * 4) L[i] := h
theorem Pt4R.of_own {W : World} {base : Nat} {e : TypeId} {v : Value} {L : List Pt4} (h : W.ownsRow base e 4 v L.length (ptCells4 L)) : Pt4R W v L := by
 obtain ⟨a, cap, rfl, q1, q2, q3⟩ := own_shape h
 unfold maxLen at q2
 refine ⟨a, cap, rfl, q1, by omega, fun i hi => ?_⟩
 obtain ⟨g, rfl, _, hc⟩ := q3 (by omega)
 have key : ∀ j, j < 4 → W.cell? ⟨g, 0 + i * 4 + j, none⟩ = (pt1 L[i])[j]? := fun j hj => by rw [Nat.zero_add, hc _ (by omega)]; exact ptCells4_get L i hi j hj
 exact ⟨g, 0, rfl, key 0 (by decide), key 1 (by decide), key 2 (by decide), key 3 (by decide)⟩
theorem info_pt4 : (Tryz.prog.info? 94).map (fun i => (i.zero, i.size, i.bytes)) = some (some (.agg #[.int .i64 0, .int .i64 0, .int .i64 0, .int .i64 0]), 4, 32) := by kernel_rfl
def supD (x : Dt) (f : Dm) : List (Int × Int) := supS (supI x f)
def plcD (x : Dt) (f : Dm) : List Int := placesS (supD x f) f.steps
def prtD (x : Dt) (f : Dm) : List Pt4 := partsTo (supD x f) f.steps (plcD x f) (plcD x f).length
theorem plc_range {s d : List (Int × Int)} (hs : StOk s) (hd : StOk d) : (∀ p ∈ placesS s d, -1048576 ≤ p ∧ p ≤ 1048576) ∧ (placesS s d).length ≤ s.length + d.length := by
 obtain ⟨hm, -⟩ := cutsL_spec ((s ++ d).map (·.1))
 refine ⟨fun p hp => ?_, ?_⟩
 ·obtain ⟨q, hq, rfl⟩ := List.mem_map.1 ((hm p).1 hp)
  rcases List.mem_append.1 hq with hq | hq
  ·obtain ⟨j, hj, rfl⟩ := List.getElem_of_mem hq
   exact (hs.one j hj).1
  ·obtain ⟨j, hj, rfl⟩ := List.getElem_of_mem hq
   exact (hd.one j hj).1
 ·have := cutsL_length ((s ++ d).map (·.1))
  rw [List.length_map, List.length_append] at this
  exact this
theorem parts_sec_c (x : Dt) (hv : DtV x) (hs : countS x.rs ≤ 16) (d : Nat) (hd : d < x.dm.length) (w : World) (h : DtAt w x) :
  Calls Tryz.prog 31 #[(.agg #[.string x.q.name, x.q.u, x.q.t, .int .i64 x.q.cover, .int .i64 x.q.agg, .int .i64 x.q.poker, x.lv, x.rv, x.pv, x.dv, .int .i64 x.ru.num, .int .i64 x.ru.den, .int .i64 x.ru.pn, .int .i64 x.ru.pd, .int .i64 x.ru.bn, .int .i64 x.ru.bd, .int .i64 x.ru.ln, .int .i64 x.ru.ld, .int .i64 x.ru.least]), .int .i64 d] w (fun e W => ∃ v, e = .returned (.tuple #[v, .int .i64 0]) ∧ Pt4R W v (prtD x x.dm[d]) ∧ ∃ y, W = ext w y) := by
 have HX := hd0 h
 have HKN := hd0 (fun w h => known_c x hv d hd w h)
 have HOF := hd0 (fun w h => supOf_c x hv hs d hd w h)
 have hok : ∀ c ∈ supI x x.dm[d], ChOk x c := fun c hc => (supI_ok x hv x.dm[d] c hc).1
 have hln : (supI x x.dm[d]).length ≤ 16 := by have := supI_len x x.dm[d]; omega
 have hst := supS_ok hok (by omega)
 have hdt := (hv.dm _ (List.getElem_mem hd)).steps
 obtain ⟨da, dc, edv, -, -, hd4⟩ := h.dm.shape
 obtain ⟨hfo, bd, od, eda, hdc⟩ := hd4 d hd
 subst eda
 have HDV := hd0 edv
 have HSD := hd0 hfo.steps
 have HD7 := hd0 hdc.2.2.2.2.2.2.2
 obtain ⟨sa, sc, esv, -⟩ := hfo.steps.shape
 have HSV := hd0 esv
 have q3 : (0 : Int) ≤ (d : Int) := by omega
 have q4 : (d : Int) < (x.dm.length : Int) := by omega
 have HAS := hd0 (fun v p w (hlp : Prs w v (supS (supI x (x.dm[d]'hd)))) => StepsAt_c (supS (supI x (x.dm[d]'hd))) v p hst w hlp)
 have HAD := hd0 (fun v p w (hlp : Prs w v (x.dm[d]'hd).steps) => StepsAt_c (x.dm[d]'hd).steps v p hdt w hlp)
 have hpr := plc_range hst hdt
 have hs32 : (supS (supI x x.dm[d])).length ≤ 200 := hst.len
 have hd200 : (x.dm[d]).steps.length ≤ 200 := hdt.len
 unfold prtD plcD supD
 unfold placesS at hpr ⊢
 have HST := hd0 hst
 have HDT := hd0 hdt
 clear h hv hok hln hst hdt hd4 hfo hdc edv esv
 rw [HSV.out] at HSD HD7
 generalize (x.dm[d]).steps = D at *
 generalize supS (supI x x.dm[d]) = S at *
 clear HSV
 obtain ⟨hp1, hp2⟩ := hpr
 have HP1 := hd0 hp1
 have HP2 := hd0 (show (cutsL ((S ++ D).map (·.1))).length ≤ 400 by omega)
 clear hp1 hp2
 have HCN := hd0 (fun (ao : Option Addr) (co g : Nat) (W : World) (h1 : Prs W (.slice ao S.length co) S) (h2 : Prs W (.slice sa D.length sc) D) c0 c1 => concatS_c S D (.slice ao S.length co) (.slice sa D.length sc) g W h1 h2 (by omega) (by omega) c0 c1)
 have hcl : (S ++ D).length ≤ 400 := by rw [List.length_append]; omega
 have HR := hd0 (fun i (hi : i < (S ++ D).length) => show -1048576 ≤ ((S ++ D)[i]).1 ∧ ((S ++ D)[i]).1 ≤ 1048576 by
  rcases Nat.lt_or_ge i S.length with hl | hl
  ·rw [List.getElem_append_left hl]; exact (HST.out.one i hl).1
  ·rw [List.getElem_append_right hl]; exact (HDT.out.one _ (by rw [List.length_append] at hi; omega)).1)
 obtain ⟨C, hC⟩ : ∃ C, S ++ D = C := ⟨_, rfl⟩
 rw [hC] at hcl HCN HR HP1 HP2
 have HCC := hd0 hC
 clear hC
 go_enter Tryz.func31, Tryz.ntmps31
 go_upto_region 1 with fail
 refine world_mask (fun W => Below w.heap.size w W ∧ Blk W w.heap.size (dtC x) 34) _ ⟨gro, Blk.new _ _ _⟩ ?_
 rintro W2 ⟨hb2, K2⟩
 have HB2 := hd0 hb2
 have HK2 := hd0 K2
 clear hb2 K2
 go_upto_region 4 with (first | (refine wpList_load_row rfl _ _ rfl _ rfl _ (dtC x) _ _ HK2.out rfl rfl rfl ?_) | (go_at_call 72; refine (HKN.out _ (HX.out.below HB2.out)).mono ?_; rintro e w' ⟨rfl, x1, rfl⟩))
 refine world_mask (fun W => Below w.heap.size w W ∧ Blk W w.heap.size (dtC x) 34) _ ⟨grob HB2.out, HK2.out.below gro⟩ ?_
 clear HB2 HK2
 rintro W3 ⟨hb2, K2⟩
 have HB2 := hd0 hb2
 have HK2 := hd0 K2
 clear hb2 K2
 go_upto_region 8 with (first | (refine wpList_load_row rfl _ _ rfl _ rfl _ (dtC x) _ _ HK2.out rfl rfl rfl ?_) | (go_at_call 37; refine (HOF.out _ (HX.out.below HB2.out)).mono ?_; rintro e w' ⟨vo, rfl, hown, y1, rfl⟩; obtain ⟨ao, co, rfl, -, -, -⟩ := own_shape hown; have HO1 := hd0 (Prs.of_own hown); clear hown))
 refine world_mask (fun W => Below w.heap.size w W ∧ Blk W w.heap.size (dtC x) 34 ∧ Prs W (.slice ao S.length co) S) _ ⟨grob HB2.out, HK2.out.below gro, HO1.out⟩ ?_
 clear HB2 HK2 HO1
 rintro W4 ⟨hb4, K4, hp4⟩
 have HB4 := hd0 hb4
 have HK4 := hd0 K4
 have HP4 := hd0 hp4
 have e9 : W4.cell? ⟨w.heap.size, 9, none⟩ = some (.slice (some ⟨bd, od, none⟩) x.dm.length dc) := (K4.cell 9).trans (congrArg some HDV.out)
 have e7 : W4.cell? ⟨bd, od + d * 8 + 7, none⟩ = some (.slice sa D.length sc) := cell_below' HD7.out hb4
 clear hb4 K4 hp4
 go_upto_region 9 with (go_at_call 73; refine (HCN.out _ _ _ _ (HP4.out.below gro) ((HSD.out.below HB4.out).below gro) (by simp [go_sem]) (by simp [go_sem])).mono ?_; rintro e w' ⟨vc, rfl, hown, y2, rfl⟩; obtain ⟨ac, cc, rfl, -, -, -⟩ := own_shape hown; have HO2 := hd0 (Prs.of_own hown); clear hown)
 refine world_mask (fun W => Below W4.heap.size W4 W ∧ Prs W (.slice ac C.length cc) C) _ ⟨gro, HO2.out⟩ ?_
 clear HO2 e9 e7
 rintro W5 ⟨hb5, hp5⟩
 have HB5 := hd0 hb5
 obtain ⟨ac', cc', eac, -, -, hp5'⟩ := hp5.shape
 cases eac
 have HP5 := hd0 hp5'
 clear hb5 hp5 hp5'
 go_loopw [44, 9] (fun i v wr => ∃ k : Nat, k ≤ C.length ∧ i = .int .i64 k ∧ Below W5.heap.size W5 wr ∧ wr.ownsRow W5.heap.size 3 1 v ((C.take k).map (·.1)).length (((C.take k).map (·.1)).map (Value.int .i64))) (fun i _ _ => C.length - (intOf i).toNat)
 case atStart => exact ⟨0, Nat.zero_le _, rfl, Below.refl _ _, World.ownsRow_nil _ _ _ _⟩
 case round =>
  obtain ⟨W6, rfl⟩ : ∃ W : World, W = wr := ⟨_, rfl⟩
  obtain ⟨k, hk, rfl, hb6, hrow⟩ := hrel
  have HB6 := hd0 hb6
  have HROW := hd0 hrow
  by_cases hlt : k < C.length
  ·obtain ⟨bc, oc, eac, c0, c1⟩ := HP5.out k hlt
   subst eac
   have hrg := HR.out k hlt
   have HT := hd0 (show (C.take (k + 1)).map (·.1) = (C.take k).map (·.1) ++ [(C[k]'hlt).1] by rw [List.take_succ_eq_append_getElem hlt, List.map_append]; rfl)
   have HLN := hd0 (show ((C.take k).map (·.1)).length ≤ 400 by rw [List.length_map, List.length_take]; omega)
   generalize (C.take k).map (·.1) = R at *
   generalize C[k] = q at *
   obtain ⟨f, u⟩ := q
   simp only at hrg HT c0 c1
   have c0 := cell_below' c0 hb6
   have c1 := cell_below' c1 hb6
   have HPL := hd0 (fun w => secPlace_c f hrg w)
   obtain ⟨av, cv, rfl, -, hcv, -⟩ := own_shape hrow
   have hcv3 : cv ≤ 9223372036854775807 := hcv
   have i1 : (0 : Int) ≤ (k : Int) := by omega
   have i2 : (k : Int) < (C.length : Int) := by omega
   have hg11 : W5.heap.size ≤ W6.heap.size := hb6.size
   clear hrow hcv hb6 hrg
   go_upto_region 11 with fail
   refine world_mask (fun W => Below W6.heap.size W6 W ∧ Blk W W6.heap.size #[.int .i64 f, .int .i64 u] 109) _ ⟨gro, Blk.new _ _ _⟩ ?_
   clear c0 c1
   rintro W7 ⟨hb7, K7⟩
   have HB7 := hd0 (HB6.out.trans (Below.mono hb7 HB6.out.size))
   have HRW7 := hd0 (own_grows HROW.out hb7)
   have hsz7 := hb7.size
   have c0 := K7.cell 0
   have c0e := fun y => (K7.ext y).cell 0
   clear hb7 K7
   go_wp2_with (first | (go_at_call 74; refine (HPL.out _).mono ?_; rintro e w' ⟨rfl, y3, rfl⟩; have c0' := c0e y3; have HB8 := hd0 (grow_ext y3 HB7.out); have HRW8 := hd0 (own_ext HRW7.out y3)) | (at_builtin; refine app_own_b rfl _ _ 48 rfl 3 (.int .i64 0) 1 8 Tryz.underlying48 info_int rfl (by decide) W5.heap.size (.slice av R.length cv) R.length (R.map (Value.int .i64)) _ rfl (HRW8.out.alloc _) _ 1 1 [.int .i64 f] rfl rfl (cells_new ?_ _ _ _ rfl) (by simp [Value.oneCell']) (by have := HLN.out; omega) (by decide) ?_ ?_; (first | rfl | simp [size_ext]); (simp only [World.size_alloc, size_ext]; omega); intro v' w1 hown' hgrow; have HO2 := hd0 hown'; obtain ⟨a', c', rfl, _, hc2, -⟩ := own_shape hown'; have hc3 : c' ≤ 9223372036854775807 := hc2; have HGR := hd0 hgrow; clear hown' hgrow hc2))
   go_roundw
   case rel => exact ⟨k + 1, by omega, by go_num, (grow_alloc _ HB8.out).grown HGR.out (by simp only [World.size_alloc, size_ext]; omega) (fun j e => (HROW.out.lt j e).1), by rw [HT.out, List.length_append, List.map_append]; exact HO2.out⟩
   case measure => simp [intOf]; omega
  ·obtain rfl : k = C.length := by omega
   rw [List.take_length] at hrow HROW
   clear hrow hb6 hk hlt
   have HLN := hd0 (show (C.map (·.1)).length ≤ 400 by rw [List.length_map]; omega)
   obtain ⟨R, hRe⟩ : ∃ R, C.map (·.1) = R := ⟨_, rfl⟩
   rw [hRe] at HLN HROW HP1 HP2
   have HRE := hd0 hRe
   clear hRe
   obtain ⟨av, cv, erv, -, hcv, -⟩ := own_shape HROW.out
   subst erv
   clear hcv
   go_upto_region 15 with (go_at_call 26; refine (sort_own _ R _ HROW.out (by have := HLN.out; omega)).mono ?_; rintro e w' ⟨rfl, hown2, hg2⟩; have HO2 := hd0 hown2; have HB7 := hd0 (HB6.out.grown hg2 HB6.out.size (own_row HROW.out)); clear hown2 hg2)
   have hls := length_sorted R
   have HLS := hd0 (show (sorted R).length ≤ 400 by have := HLN.out; omega)
   clear hls HROW
   go_upto_region 17 with (go_at_call 75; refine (compactS_own _ R _ HO2.out (by have := HLS.out; omega)).mono ?_; rintro e w2 ⟨v2, rfl, hown3, hg3⟩; have HB8 := hd0 (HB7.out.grown hg3 HB7.out.size (own_row HO2.out)); have HO3 := hd0 hown3; obtain ⟨a3, c3, ev2, -, hc3, -⟩ := own_shape hown3; subst ev2; clear hown3 hg3)
   obtain ⟨P, hPe⟩ : ∃ P, cutsL R = P := ⟨_, rfl⟩
   rw [hPe] at HP1 HP2 HO3 ⊢
   have HPE := hd0 hPe
   clear hPe
   clear HO2 HB7 HLS HLN
   go_wp2_with fail
   go_loopw [63, 12] (fun i v wr => ∃ k : Nat, k ≤ P.length ∧ i = .int .i64 k ∧ Below W5.heap.size W5 wr ∧ wr.ownsRow W5.heap.size 3 1 (.slice a3 P.length c3) P.length (P.map (Value.int .i64)) ∧ wr.ownsRow W5.heap.size 94 4 v (partsTo S D P k).length (ptCells4 (partsTo S D P k))) (fun i _ _ => P.length - (intOf i).toNat)
   case atStart => exact ⟨0, Nat.zero_le _, rfl, HB8.out, HO3.out, World.ownsRow_nil _ _ _ _⟩
   case round =>
    obtain ⟨W9, rfl⟩ : ∃ W : World, W = wr := ⟨_, rfl⟩
    clear HB8 HO3
    obtain ⟨k, hk, rfl, hb9, hq9, hrow⟩ := hrel
    have HB9 := hd0 hb9
    have HQ9 := hd0 hq9
    have HRW := hd0 hrow
    have HLL := hd0 (show (partsTo S D P k).length ≤ 400 by rw [partsTo_length]; have := HP2.out; omega)
    have HTS := hd0 (partsTo_succ S D P k)
    have HB49 := hd0 (HB5.out.trans (Below.mono hb9 HB5.out.size))
    by_cases hlt : k < P.length
    ·have hq := Nts.of_own hq9 rfl
     obtain ⟨a3', c3', ea3, -, -, hq4⟩ := hq.shape
     cases ea3
     obtain ⟨bq, oq, ea, hcq⟩ := hq4 k hlt
     subst ea
     obtain ⟨r1, r2⟩ := HP1.out _ (List.getElem_mem hlt)
     have e9 : W9.cell? ⟨w.heap.size, 9, none⟩ = some (.slice (some ⟨bd, od, none⟩) x.dm.length dc) := ((HK4.out.below HB49.out).cell 9).trans (congrArg some HDV.out)
     have e7 : W9.cell? ⟨bd, od + d * 8 + 7, none⟩ = some (.slice sa D.length sc) := cell_below' (cell_below' HD7.out HB4.out) HB49.out
     have i1 : (0 : Int) ≤ (k : Int) := by omega
     have i2 : (k : Int) < (P.length : Int) := by omega
     have hkl : (k : Int) ≤ 400 := by have := HP2.out; omega
     have hg11 : W5.heap.size ≤ W9.heap.size := hb9.size
     by_cases hnx : k + 1 < P.length
     ·obtain ⟨bq', oq', ea', hcn⟩ := hq4 (k + 1) hnx
      cases ea'
      obtain ⟨r3, r4⟩ := HP1.out _ (List.getElem_mem hnx)
      have HT := hd0 (show partsTo S D P (k + 1) = partsTo S D P k ++ [⟨P[k], P[k + 1] - 1, atS S P[k], atS D P[k]⟩] by
       rw [HTS.out]
       unfold ptI
       rw [if_pos hnx, ← List.getElem_eq_getD (h := hlt), ← List.getElem_eq_getD (h := hnx)])
      have d1 : (k : Int) + 1 < (P.length : Int) := by omega
      have i3 : (0 : Int) ≤ (k : Int) + 1 := by omega
      generalize P[k] = q at *
      generalize P[k + 1] = q2 at *
      generalize partsTo S D P k = L at *
      obtain ⟨n1, hn1⟩ : ∃ n, atS S q = n := ⟨_, rfl⟩
      obtain ⟨n2, hn2⟩ : ∃ n, atS D q = n := ⟨_, rfl⟩
      rw [hn1, hn2] at HT
      have HAS := hd0 (fun v w hl => HAS.out v q w hl)
      have HAD := hd0 (fun v w hl => HAD.out v q w hl)
      rw [hn1] at HAS
      rw [hn2] at HAD
      obtain ⟨av, cv, rfl, -, hcv, -⟩ := own_shape hrow
      have hcv3 : cv ≤ 9223372036854775807 := hcv
      clear hn1 hn2 hq hq4 hb9 hq9 hrow hcv
      go_wp2_with (first | (go_at_call_of 22 (Value.slice ao S.length co); refine (HAS.out _ _ (HP4.out.below HB49.out)).mono ?_; rintro e w' ⟨rfl, y4, rfl⟩; have e9' := cell_ext_some e9 y4; have e7' := cell_ext_some e7 y4) | (go_at_call_of 22 (Value.slice sa D.length sc); refine (HAD.out _ _ (((HSD.out.below HB4.out).below HB49.out).ext y4)).mono ?_; rintro e w' ⟨rfl, y5, rfl⟩; have HB10 := hd0 (grow_ext y5 (grow_ext y4 HB9.out)); have HQ10 := hd0 (own_ext (own_ext HQ9.out y4) y5); have HR10 := hd0 (own_ext (own_ext HRW.out y4) y5)) | (at_builtin; refine app_own_b rfl _ _ 90 rfl 94 (.agg #[.int .i64 0, .int .i64 0, .int .i64 0, .int .i64 0]) 4 32 Tryz.underlying90 info_pt4 rfl (by decide) W5.heap.size (.slice av L.length cv) L.length (ptCells4 L) _ rfl (HR10.out.alloc _) _ 1 1 (pt1 ⟨q, q2 - 1, n1, n2⟩) rfl rfl (cells_new ?_ _ _ _ rfl) (by simp [pt1, Value.oneCell']) (by have := HLL.out; omega) (by decide) ?_ ?_; (first | rfl | simp [size_ext]); (simp only [World.size_alloc, size_ext]; omega); intro v' w1 hown' hgrow; have HOA := hd0 hown'; obtain ⟨a', c', rfl, _, hc2, -⟩ := own_shape hown'; have hc3' : c' ≤ 9223372036854775807 := hc2; have HGR := hd0 hgrow; clear hown' hgrow hc2))
      go_roundw
      case rel => exact ⟨k + 1, by omega, by go_num, (grow_alloc _ HB10.out).grown HGR.out (by simp only [World.size_alloc, size_ext]; omega) (fun j e => (HRW.out.lt j e).1), own_grownBy (HQ10.out.alloc _) (HR10.out.alloc _) (by decide) HGR.out, by rw [HT.out, List.length_append, ptCells4_app]; exact HOA.out⟩
      case measure => simp [intOf]; omega
     ·have HT := hd0 (show partsTo S D P (k + 1) = partsTo S D P k ++ [⟨P[k], 1048576, atS S P[k], atS D P[k]⟩] by
       rw [HTS.out]
       unfold ptI
       rw [if_neg hnx, ← List.getElem_eq_getD (h := hlt)])
      have d1 : ¬ ((k : Int) + 1 < (P.length : Int)) := by omega
      generalize P[k] = q at *
      generalize partsTo S D P k = L at *
      obtain ⟨n1, hn1⟩ : ∃ n, atS S q = n := ⟨_, rfl⟩
      obtain ⟨n2, hn2⟩ : ∃ n, atS D q = n := ⟨_, rfl⟩
      rw [hn1, hn2] at HT
      have HAS := hd0 (fun v w hl => HAS.out v q w hl)
      have HAD := hd0 (fun v w hl => HAD.out v q w hl)
      rw [hn1] at HAS
      rw [hn2] at HAD
      obtain ⟨av, cv, rfl, -, hcv, -⟩ := own_shape hrow
      have hcv3 : cv ≤ 9223372036854775807 := hcv
      clear hn1 hn2 hq hq4 hb9 hq9 hrow hcv
      go_wp2_with (first | (go_at_call_of 22 (Value.slice ao S.length co); refine (HAS.out _ _ (HP4.out.below HB49.out)).mono ?_; rintro e w' ⟨rfl, y4, rfl⟩; have e9' := cell_ext_some e9 y4; have e7' := cell_ext_some e7 y4) | (go_at_call_of 22 (Value.slice sa D.length sc); refine (HAD.out _ _ (((HSD.out.below HB4.out).below HB49.out).ext y4)).mono ?_; rintro e w' ⟨rfl, y5, rfl⟩; have HB10 := hd0 (grow_ext y5 (grow_ext y4 HB9.out)); have HQ10 := hd0 (own_ext (own_ext HQ9.out y4) y5); have HR10 := hd0 (own_ext (own_ext HRW.out y4) y5)) | (at_builtin; refine app_own_b rfl _ _ 90 rfl 94 (.agg #[.int .i64 0, .int .i64 0, .int .i64 0, .int .i64 0]) 4 32 Tryz.underlying90 info_pt4 rfl (by decide) W5.heap.size (.slice av L.length cv) L.length (ptCells4 L) _ rfl (HR10.out.alloc _) _ 1 1 (pt1 ⟨q, 1048576, n1, n2⟩) rfl rfl (cells_new ?_ _ _ _ rfl) (by simp [pt1, Value.oneCell']) (by have := HLL.out; omega) (by decide) ?_ ?_; (first | rfl | simp [size_ext]); (simp only [World.size_alloc, size_ext]; omega); intro v' w1 hown' hgrow; have HOA := hd0 hown'; obtain ⟨a', c', rfl, _, hc2, -⟩ := own_shape hown'; have hc3' : c' ≤ 9223372036854775807 := hc2; have HGR := hd0 hgrow; clear hown' hgrow hc2))
      go_roundw
      case rel => exact ⟨k + 1, by omega, by go_num, (grow_alloc _ HB10.out).grown HGR.out (by simp only [World.size_alloc, size_ext]; omega) (fun j e => (HRW.out.lt j e).1), own_grownBy (HQ10.out.alloc _) (HR10.out.alloc _) (by decide) HGR.out, by rw [HT.out, List.length_append, ptCells4_app]; exact HOA.out⟩
      case measure => simp [intOf]; omega
    ·obtain rfl : k = P.length := by omega
     have HPR := hd0 (Pt4R.of_own hrow)
     obtain ⟨L, hLp⟩ : ∃ L, partsTo S D P P.length = L := ⟨_, rfl⟩
     rw [hLp] at hrow HPR
     have HLP := hd0 hLp
     clear hLp HRW HLL HTS
     obtain ⟨av, cv, erv, -, hcv, -⟩ := own_shape hrow
     subst erv
     clear hrow hb9 hq9 hcv
     go_wp2
     go_ret2
     rw [HCC.out, HRE.out, HPE.out, HLP.out]
     exact ⟨_, rfl, HPR.out, ext_of (HB4.out.trans (Below.mono HB49.out HB4.out.size))⟩
set_option maxHeartbeats 16000000
set_option maxRecDepth 100000

theorem pairCells_set1 (L : List (Int × Int)) (k : Nat) (z : Int) (h : k < L.length) : (pairCells L).set (k * 2 + 1) (.int .i64 z) = pairCells (L.set k (L[k].1, z)) := by
 induction L generalizing k with
 | nil => simp at h
 | cons a L ih =>
   cases k with
   | zero => simp [pairCells]
   | succ k =>
     have hl : k < L.length := by simpa using h
     have e1 : (k + 1) * 2 + 1 = (k * 2 + 1) + 1 + 1 := by omega
     rw [e1]
     show _ = pairCells (a :: L.set k (L[k].1, z))
     have hc : ∀ M, pairCells (a :: M) = .int .i64 a.1 :: .int .i64 a.2 :: pairCells M := fun M => rfl
     rw [hc, hc]
     simp only [List.set_cons_succ]
     rw [ih k hl]
theorem own_set1 {W : World} {base g cap n : Nat} {e : TypeId} {L : List (Int × Int)} {k : Nat} (z : Int) (hn : n = L.length) (h : W.ownsRow base e 2 (.slice (some ⟨g, 0, none⟩) n cap) n (pairCells L)) (hk : k < L.length) : (W.setCell ⟨g, k * 2 + 1, none⟩ (.int .i64 z)).ownsRow base e 2 (.slice (some ⟨g, 0, none⟩) n cap) n (pairCells (L.set k (L[k].1, z))) := by
 subst hn
 obtain ⟨cur, h1, h2, h3, h4, h5, h6⟩ := own_bk h
 refine ⟨by rw [pairCells_length, List.length_set], .inr ⟨g, cap, _, rfl, h4, h1.set _ _, h5, h6, by simpa using h2, ?_⟩⟩
 rw [Array.toList_setIfInBounds, List.take_set, h3]
 exact pairCells_set1 L k z hk
def failD (x : Dt) (f : Dm) : Option Int := firstF (supD x f) f.steps
theorem prtD_first (x : Dt) (f : Dm) : firstP (prtD x f) = failD x f := firstP_parts _ _ _
theorem prtD_range {x : Dt} {f : Dm} (hs : StOk (supD x f)) (hd : StOk f.steps) : ∀ p ∈ prtD x f, (-1048576 ≤ p.lo ∧ p.lo ≤ 1048576) ∧ -1048577 ≤ p.hi ∧ p.hi ≤ 1048576 := by
 intro p hp
 unfold prtD partsTo at hp
 obtain ⟨i, hi, rfl⟩ := List.mem_map.1 hp
 have hi := List.mem_range.1 hi
 have hr := (plc_range hs hd).1
 unfold ptI
 have h1 := hr _ (List.getElem_mem hi)
 rw [← List.getElem_eq_getD (h := hi)]
 refine ⟨h1, ?_⟩
 split
 ·rename_i h2
  have h3 := hr _ (List.getElem_mem h2)
  rw [← List.getElem_eq_getD (h := h2)]
  change (-1048576 ≤ (plcD x f)[i + 1] ∧ (plcD x f)[i + 1] ≤ 1048576) at h3
  constructor <;> simp only <;> omega
 ·constructor <;> simp only <;> omega
theorem prtD_len {x : Dt} {f : Dm} (hs : StOk (supD x f)) (hd : StOk f.steps) : (prtD x f).length ≤ 400 := by
 unfold prtD
 rw [partsTo_length]
 have := (plc_range hs hd).2
 have h1 := hs.len
 have h2 := hd.len
 show (placesS (supD x f) f.steps).length ≤ 400
 omega
def RetSpans (w : World) (o : Option Int) (e : Ending) (W : World) : Prop := ∃ v R, e = .returned (.tuple #[v, .int .i64 0]) ∧ W.ownsRow w.heap.size 60 2 v R.length (pairCells R) ∧ headI R = o ∧ ∃ y, W = ext w y
theorem info_sp : (Tryz.prog.info? 60).map (fun i => (i.zero, i.size, i.bytes)) = some (some (.agg #[.int .i64 0, .int .i64 0]), 2, 16) := by kernel_rfl
theorem firstP_take (L : List Pt4) {k : Nat} (h : k < L.length) : L.take (k + 1) = L.take k ++ [L[k]] := List.take_succ_eq_append_getElem h
theorem supD_ok (x : Dt) (hv : DtV x) (hs : countS x.rs ≤ 16) (f : Dm) : StOk (supD x f) :=
 supS_ok (fun c hc => (supI_ok x hv f c hc).1) (by have := supI_len x f; omega)
theorem Spans_sec_c (x : Dt) (hv : DtV x) (hs : countS x.rs ≤ 16) (d : Nat) (hd : d < x.dm.length) (w : World) (h : DtAt w x) :
  Calls Tryz.prog 12 #[(.agg #[.string x.q.name, x.q.u, x.q.t, .int .i64 x.q.cover, .int .i64 x.q.agg, .int .i64 x.q.poker, x.lv, x.rv, x.pv, x.dv, .int .i64 x.ru.num, .int .i64 x.ru.den, .int .i64 x.ru.pn, .int .i64 x.ru.pd, .int .i64 x.ru.bn, .int .i64 x.ru.bd, .int .i64 x.ru.ln, .int .i64 x.ru.ld, .int .i64 x.ru.least]), .int .i64 d] w (RetSpans w (failD x x.dm[d])) := by
 have HX := hd0 h
 have HPT := hd0 (fun w h => parts_sec_c x hv hs d hd w h)
 have hst := supD_ok x hv hs x.dm[d]
 have hdt := (hv.dm _ (List.getElem_mem hd)).steps
 have HRG := hd0 (prtD_range hst hdt)
 have hln := prtD_len hst hdt
 rw [← prtD_first]
 generalize prtD x x.dm[d] = L at *
 clear h hv hst hdt
 go_enter Tryz.func12, Tryz.ntmps12
 go_upto_region 1 with fail
 refine world_mask (fun W => Below w.heap.size w W ∧ Blk W w.heap.size (dtC x) 34) _ ⟨gro, Blk.new _ _ _⟩ ?_
 rintro W2 ⟨hb2, K2⟩
 have HB2 := hd0 hb2
 have HK2 := hd0 K2
 clear hb2 K2
 go_upto_region 5 with (first | (refine wpList_load_row rfl _ _ rfl _ rfl _ (dtC x) _ _ HK2.out rfl rfl rfl ?_) | (go_at_call 31; refine (HPT.out _ (HX.out.below HB2.out)).mono ?_; rintro e w' ⟨vp, rfl, hpr, y1, rfl⟩; obtain ⟨pa, pc, epv, -⟩ := hpr.shape; subst epv; have HPR := hd0 hpr; clear hpr))
 refine world_mask (fun W => Below w.heap.size w W ∧ Pt4R W (.slice pa L.length pc) L) _ ⟨grob HB2.out, HPR.out⟩ ?_
 clear HB2 HK2 HPR
 rintro W1 ⟨hb1, hp1⟩
 have HB1 := hd0 hb1
 obtain ⟨pa', pc', epa, -, -, hp4⟩ := hp1.shape
 cases epa
 have HP4 := hd0 hp4
 clear hb1 hp1 hp4
 go_wp2_with fail
 go_loopw [23, 8] (fun i v wr => ∃ (k : Nat) (R : List (Int × Int)), k ≤ L.length ∧ i = .int .i64 k ∧ Below W1.heap.size W1 wr ∧ headI R = firstP (L.take k) ∧ R.length ≤ k ∧ (∀ q ∈ R, -1048577 ≤ q.2 ∧ q.2 ≤ 1048576) ∧ wr.ownsRow W1.heap.size 60 2 v R.length (pairCells R)) (fun i _ _ => L.length - (intOf i).toNat)
 case atStart => exact ⟨0, [], Nat.zero_le _, rfl, Below.refl _ _, rfl, Nat.le_refl _, (fun q hq => by cases hq), World.ownsRow_nil _ _ _ _⟩
 case round =>
  obtain ⟨W3, rfl⟩ : ∃ W : World, W = wr := ⟨_, rfl⟩
  obtain ⟨k, R, hk, rfl, hb3, hhd, hrl, hrr, hrow⟩ := hrel
  have HB3 := hd0 hb3
  have HRR := hd0 hrr
  have HHD := hd0 hhd
  obtain ⟨av, cv, rfl, -, hcv, hrc⟩ := own_shape hrow
  have hcv3 : cv ≤ 9223372036854775807 := hcv
  have HROW := hd0 hrow
  have HRC := hd0 hrc
  have HRL := hd0 hrl
  by_cases hlt : k < L.length
  ·obtain ⟨bp, op, epa, hca⟩ := HP4.out k hlt
   subst epa
   obtain ⟨⟨r1, r2⟩, r3, r4⟩ := HRG.out _ (List.getElem_mem hlt)
   have HT := hd0 (firstP_take L hlt)
   obtain ⟨A, hA⟩ : ∃ A, L.take k = A := ⟨_, rfl⟩
   rw [hA] at HT HHD
   generalize L[k] = p at *
   obtain ⟨lo, hi, th, wa⟩ := p
   simp only at r1 r2 r3 r4
   obtain ⟨c0, c1, c2, c3⟩ := hca.below hb3
   simp only at c0 c1 c2 c3
   have i1 : (0 : Int) ≤ (k : Int) := by omega
   have i2 : (k : Int) < (L.length : Int) := by omega
   have hg11 : W1.heap.size ≤ W3.heap.size := hb3.size
   have hkl : k ≤ 400 := by omega
   clear hrow hrc hrr hhd hcv hca hb3 hA hrl
   go_upto_region 8 with fail
   refine world_mask (fun W => Below W3.heap.size W3 W ∧ Blk W W3.heap.size #[.int .i64 lo, .int .i64 hi, .int .i64 th, .int .i64 wa] 94) _ ⟨gro, Blk.new _ _ _⟩ ?_
   clear c0 c1 c2 c3
   have hg10 : W1.heap.size ≤ W3.heap.size := hg11
   have HNE := hd0 (HROW.out.lt)
   generalize hG : W3.heap.size = g10 at hg10 ⊢
   rintro W4 ⟨hb4, K4⟩
   rw [← hG] at hb4
   have HG := hd0 hG
   have HB4 := hd0 (HB3.out.trans (Below.mono hb4 HB3.out.size))
   have HRW4 := hd0 (own_grows HROW.out hb4)
   have HB34 := hd0 hb4
   have HK4 := hd0 K4
   have c0 := K4.cell 0
   have c1 := K4.cell 1
   have c2 := K4.cell 2
   have c3 := K4.cell 3
   have hsz4 := hb4.size
   clear hb4 K4 hG
   by_cases hfl : th < wa
   ·have HF := hd0 (show failP ⟨lo, hi, th, wa⟩ = true by unfold failP; simpa using hfl)
    have d1 : decide (wa ≤ th) = false := by simp; omega
    clear hfl
    by_cases hR : R = []
    ·
     have d2 : decide ((0 : Int) < (R.length : Int)) = false := by subst hR; rfl
     have d2n : decide (0 < R.length) = false := by subst hR; rfl
     have d2z : ¬ 0 < R.length := by subst hR; simp
     clear hR
     go_upto_region 11 with fail
     refine wp_region_grows (by kernel_rfl) (by kernel_rfl) ?_
     repeat (go_big_quiet_step (fail))
     refine wpQuiet_nil ?_; rintro _ ⟨xq, rfl⟩
     refine world_mask (fun W => Below W4.heap.size W4 W) _ gro ?_
     clear c0 c1 c2 c3
     rintro W5 hb5
     have HB5 := hd0 (HB4.out.trans (Below.mono hb5 HB4.out.size))
     have HRW5 := hd0 (own_grows HRW4.out hb5)
     have c0 := (HK4.out.below hb5).cell 0
     have c1 := (HK4.out.below hb5).cell 1
     have hsz5 := hb5.size
     clear hb5
     go_wp2_with (at_builtin; refine app_own_b rfl _ _ 56 rfl 60 (.agg #[.int .i64 0, .int .i64 0]) 2 16 Tryz.underlying56 info_sp rfl (by decide) W1.heap.size (.slice av R.length cv) R.length (pairCells R) _ rfl (HRW5.out.alloc _) _ 1 1 (pairCells [(lo, hi)]) rfl rfl (cells_new ?_ _ _ _ rfl) (pairCells_one _) (by have := HRL.out; omega) (by decide) ?_ ?_; (first | rfl | simp [size_ext]); (have := HG.out; simp only [World.size_alloc]; omega); intro v' w1 hown' hgrow; have HO2 := hd0 hown'; obtain ⟨a', c', rfl, _, hc2, -⟩ := own_shape hown'; have hc3 : c' ≤ 9223372036854775807 := hc2; have HGR := hd0 hgrow; clear hown' hgrow hc2)
     go_roundw
     case rel => exact ⟨k + 1, R ++ [(lo, hi)], by omega, by go_num, (grow_alloc _ HB5.out).grown HGR.out (by have := HG.out; simp only [World.size_alloc]; omega) (fun j e => (HROW.out.lt j e).1), by rw [HT.out]; exact firstP_app HHD.out HF.out hi, by rw [List.length_append]; have := HRL.out; simp; omega, fun q hq => by
      rcases List.mem_append.1 hq with hq | hq
      ·exact HRR.out q hq
      ·obtain rfl := List.mem_singleton.1 hq
       exact ⟨r3, r4⟩, by rw [List.length_append, pairCells_app]; first | exact HO2.out | (rw [HRE.out]; exact HO2.out)⟩
     case measure => simp [intOf]; omega
    ·
     obtain ⟨r, hr⟩ : ∃ r, R.length = r + 1 := ⟨R.length - 1, by have := List.length_pos_iff.2 hR; omega⟩
     have HRE := hd0 hr
     have HLT := hd0 (show r < R.length by omega)
     have HRN := hd0 hR
     obtain ⟨g, eav, -, hcell⟩ := HRC.out (by omega)
     subst eav
     have hpr := (pairCells_get R r HLT.out).2
     have hlr := (HRR.out _ (List.getElem_mem HLT.out))
     have HST := hd0 (fun (W : World) hrow => own_set1 (W := W) (base := W1.heap.size) (cap := cv) (n := r + 1) (e := 60) (L := R) (g := g) (k := r) hi (by omega) hrow HLT.out)
     have HFS := hd0 (firstP_set (p := ⟨lo, hi, th, wa⟩) HHD.out hR r HLT.out hi)
     have HMS := hd0 (fun q (hq : q ∈ R.set r ((R[r]'HLT.out).1, hi)) => show -1048577 ≤ q.2 ∧ q.2 ≤ 1048576 from by
      rcases List.mem_or_eq_of_mem_set hq with h | h
      ·exact HRR.out q h
      ·subst h; exact ⟨r3, r4⟩)
     obtain ⟨hl, hhl⟩ : ∃ z, (R[r]'HLT.out).2 = z := ⟨_, rfl⟩
     rw [hhl] at hpr hlr
     obtain ⟨l1, l2⟩ := hlr
     have HLC := hd0 (show ∀ W : World, W.ownsRow W1.heap.size 60 2 (.slice (some ⟨g, 0, none⟩) (r + 1) cv) (r + 1) (pairCells R) → W.cell? ⟨g, r * 2 + 1, none⟩ = some (.int .i64 hl) ∧ W.frozen? ⟨g, r * 2 + 1, none⟩ = false from fun W hW => by
      obtain ⟨cur, k1, k2, k3, -, k5, -⟩ := own_bk hW
      refine ⟨?_, k1.frozen _⟩
      rw [k1.cell (r * 2 + 1), ← Array.getElem?_toList, ← List.getElem?_take_of_lt (show r * 2 + 1 < (r + 1) * 2 by omega), k3]
      exact hpr)
     rw [hr] at HROW HRW4 ⊢
     have d2 : decide ((0 : Int) < ((r + 1 : Nat) : Int)) = true := by simp
     have i3 : (0 : Int) ≤ (r : Int) := by omega
     have hlc := (HLC.out _ HRW4.out).1
     have hrb : (r : Int) ≤ 1000000 := by have := HRL.out; omega
     clear hr hR hcell hpr hhl
     by_cases heq : hl + 1 = lo
     ·have d3 : (hl + 1 == lo) = true := by simp [heq]
      clear heq
      go_upto_region 11 with fail
      refine wp_region_grows (by kernel_rfl) (by kernel_rfl) ?_
      repeat (go_big_quiet_step (fail))
      refine wpQuiet_nil ?_; rintro _ ⟨xq, rfl⟩
      refine world_mask (fun W => Below W4.heap.size W4 W) _ gro ?_
      clear c0 c1 c2 c3 hlc
      rintro W5 hb5
      have HB5 := hd0 (HB4.out.trans (Below.mono hb5 HB4.out.size))
      have HRW5 := hd0 (own_grows HRW4.out hb5)
      have c0 := (HK4.out.below hb5).cell 0
      have c1 := (HK4.out.below hb5).cell 1
      have hsz5 := hb5.size
      clear hb5
      obtain ⟨t1, f1⟩ := HLC.out _ HRW5.out
      go_wp2_with fail
      go_roundw
      case rel => exact ⟨k + 1, R.set r ((R[r]'HLT.out).1, hi), by omega, by go_num, HB5.out.setCell (HROW.out.lt g rfl).1 _, by rw [HT.out]; exact HFS.out, by rw [List.length_set]; have := HRL.out; omega, HMS.out, by rw [show (R.set r ((R[r]'HLT.out).1, hi)).length = r + 1 from by rw [List.length_set]; exact HRE.out]; exact HST.out _ HRW5.out⟩
      case measure => simp [intOf]; omega
     ·have d3 : (hl + 1 == lo) = false := by simp [heq]
      clear heq
      go_upto_region 11 with fail
      refine wp_region_grows (by kernel_rfl) (by kernel_rfl) ?_
      repeat (go_big_quiet_step (fail))
      refine wpQuiet_nil ?_; rintro _ ⟨xq, rfl⟩
      refine world_mask (fun W => Below W4.heap.size W4 W) _ gro ?_
      clear c0 c1 c2 c3 hlc
      rintro W5 hb5
      have HB5 := hd0 (HB4.out.trans (Below.mono hb5 HB4.out.size))
      have HRW5 := hd0 (own_grows HRW4.out hb5)
      have c0 := (HK4.out.below hb5).cell 0
      have c1 := (HK4.out.below hb5).cell 1
      have hsz5 := hb5.size
      clear hb5
      go_wp2_with (at_builtin; refine app_own_b rfl _ _ 56 rfl 60 (.agg #[.int .i64 0, .int .i64 0]) 2 16 Tryz.underlying56 info_sp rfl (by decide) W1.heap.size (.slice (some ⟨g, 0, none⟩) (r + 1) cv) (r + 1) (pairCells R) _ rfl (HRW5.out.alloc _) _ 1 1 (pairCells [(lo, hi)]) rfl rfl (cells_new ?_ _ _ _ rfl) (pairCells_one _) (by have := HRL.out; omega) (by decide) ?_ ?_; (first | rfl | simp [size_ext]); (have := HG.out; simp only [World.size_alloc]; omega); intro v' w1 hown' hgrow; have HO2 := hd0 hown'; obtain ⟨a', c', rfl, _, hc2, -⟩ := own_shape hown'; have hc3 : c' ≤ 9223372036854775807 := hc2; have HGR := hd0 hgrow; clear hown' hgrow hc2)
      go_roundw
      case rel => exact ⟨k + 1, R ++ [(lo, hi)], by omega, by go_num, (grow_alloc _ HB5.out).grown HGR.out (by have := HG.out; simp only [World.size_alloc]; omega) (fun j e => (HROW.out.lt j e).1), by rw [HT.out]; exact firstP_app HHD.out HF.out hi, by rw [List.length_append]; have := HRL.out; simp; omega, fun q hq => by
       rcases List.mem_append.1 hq with hq | hq
       ·exact HRR.out q hq
       ·obtain rfl := List.mem_singleton.1 hq
        exact ⟨r3, r4⟩, by rw [List.length_append, pairCells_app]; first | exact HO2.out | (rw [HRE.out]; exact HO2.out)⟩
      case measure => simp [intOf]; omega
   ·have HF := hd0 (show failP ⟨lo, hi, th, wa⟩ = false by unfold failP; simpa using hfl)
    have d1 : decide (wa ≤ th) = true := by simp; omega
    clear hfl
    go_wp2_with fail
    go_roundw
    case rel => exact ⟨k + 1, R, by omega, by go_num, HB4.out, by rw [HT.out]; exact firstP_skip HHD.out HF.out, by have := HRL.out; omega, HRR.out, HRW4.out⟩
    case measure => simp [intOf]; omega
  ·obtain rfl : k = L.length := by omega
   rw [List.take_length] at HHD
   clear hrow hrc hrr hhd hcv hb3 hrl
   go_wp2
   go_ret2
   exact ⟨_, R, rfl, own_mono HROW.out HB1.out.size, HHD.out, ext_of (HB1.out.trans (Below.mono HB3.out HB1.out.size))⟩
def failT (o : Option Int) : Value := match o with | none => .tuple #[.int .i64 0, .int .i64 12] | some q => .tuple #[.int .i64 q, .int .i64 0]
theorem Fails_c (x : Dt) (hv : DtV x) (hs : countS x.rs ≤ 16) (d : Nat) (hd : d < x.dm.length) (w : World) (h : DtAt w x) :
  Calls Tryz.prog 11 #[(.agg #[.string x.q.name, x.q.u, x.q.t, .int .i64 x.q.cover, .int .i64 x.q.agg, .int .i64 x.q.poker, x.lv, x.rv, x.pv, x.dv, .int .i64 x.ru.num, .int .i64 x.ru.den, .int .i64 x.ru.pn, .int .i64 x.ru.pd, .int .i64 x.ru.bn, .int .i64 x.ru.bd, .int .i64 x.ru.ln, .int .i64 x.ru.ld, .int .i64 x.ru.least]), .int .i64 d] w (Ret w (failT (failD x x.dm[d]))) := by
 have HX := hd0 h
 have HSP := hd0 (fun w h => Spans_sec_c x hv hs d hd w h)
 generalize failD x x.dm[d] = o at *
 clear h hv
 go_enter Tryz.func11, Tryz.ntmps11
 go_upto_region 1 with fail
 refine world_mask (fun W => Below w.heap.size w W ∧ Blk W w.heap.size (dtC x) 34) _ ⟨gro, Blk.new _ _ _⟩ ?_
 rintro W2 ⟨hb2, K2⟩
 have HB2 := hd0 hb2
 have HK2 := hd0 K2
 clear hb2 K2
 go_upto_region 2 with (first | (refine wpList_load_row rfl _ _ rfl _ rfl _ (dtC x) _ _ HK2.out rfl rfl rfl ?_) | (go_at_call 12; refine (HSP.out _ (HX.out.below HB2.out)).mono ?_; rintro e w' ⟨vs, R, rfl, hown, hhd, y1, rfl⟩; have hpr := Prs.of_own hown; obtain ⟨pa, pc, epv, -, -, h4⟩ := hpr.shape; subst epv; have H4 := hd0 h4; clear hpr hown h4))
 have HB3 := hd0 (show Below w.heap.size w (ext W2 y1) from grob HB2.out)
 cases R with
 | nil =>
   obtain rfl : o = none := hhd.symm
   rw [show (([] : List (Int × Int)).length) = 0 from rfl]
   go_wp2
   go_ret2
   exact Ret.of HB3.out
 | cons a R =>
   obtain rfl : o = some a.1 := hhd.symm
   obtain ⟨g, o, eg, c0, c1⟩ := H4.out 0 (by simp)
   subst eg
   have c0 : (ext W2 y1).cell? ⟨g, o, none⟩ = some (.int .i64 a.1) := by simpa using c0
   have d1 : (((R.length + 1 : Nat) : Int) == 0) = false := by simp; omega
   have i1 : (0 : Int) < ((R.length + 1 : Nat) : Int) := by omega
   rw [show (a :: R).length = R.length + 1 from rfl]
   clear c1 hhd H4
   go_wp2
   go_ret2
   exact Ret.of HB3.out
def chkI (x : Dt) (l : List Dm) : List ByteArray := (l.filter fun f => (failD x f).isSome).map (·.name)
theorem chkI_snoc (x : Dt) (l : List Dm) (f : Dm) : chkI x (l ++ [f]) = chkI x l ++ (if (failD x f).isSome = true then [f.name] else []) := by
 unfold chkI
 rw [List.filter_append, List.map_append]
 cases h : (failD x f).isSome <;> simp [h]
theorem chkI_len (x : Dt) (l : List Dm) : (chkI x l).length ≤ l.length := by
 unfold chkI
 rw [List.length_map]
 exact List.length_filter_le _ _
theorem secCheck_c (x : Dt) (hv : DtV x) (hs : countS x.rs ≤ 16) (w : World) (h : DtAt w x) : Calls Tryz.prog 32 #[(.agg #[.string x.q.name, x.q.u, x.q.t, .int .i64 x.q.cover, .int .i64 x.q.agg, .int .i64 x.q.poker, x.lv, x.rv, x.pv, x.dv, .int .i64 x.ru.num, .int .i64 x.ru.den, .int .i64 x.ru.pn, .int .i64 x.ru.pd, .int .i64 x.ru.bn, .int .i64 x.ru.bd, .int .i64 x.ru.ln, .int .i64 x.ru.ld, .int .i64 x.ru.least])] w (RetFds w (chkI x x.dm) 0) := by
 have HX := hd0 h
 have HLV := hd0 (fun w h => lapValid_c x hv w h)
 have HSP := hd0 (fun d hd w h => Spans_sec_c x hv hs d hd w h)
 have hdl := hv.dlen
 obtain ⟨da, dc, edv, -, -, hd4⟩ := h.dm.shape
 have HDV := hd0 edv
 have HD4 := hd0 hd4
 clear h hv hs edv hd4
 go_enter Tryz.func32, Tryz.ntmps32
 go_upto_region 1 with fail
 refine world_mask (fun W => Below w.heap.size w W ∧ Blk W w.heap.size (dtC x) 34) _ ⟨gro, Blk.new _ _ _⟩ ?_
 rintro W2 ⟨hb2, K2⟩
 have HB2 := hd0 hb2
 have HK2 := hd0 K2
 clear hb2 K2
 go_upto_region 4 with (first | (refine wpList_load_row rfl _ _ rfl _ rfl _ (dtC x) _ _ HK2.out rfl rfl rfl ?_) | (go_at_call 27; refine (HLV.out _ (HX.out.below HB2.out)).mono ?_; rintro e w' ⟨rfl, x1, rfl⟩))
 refine world_mask (fun W => Below w.heap.size w W ∧ Blk W w.heap.size (dtC x) 34) _ ⟨grob HB2.out, HK2.out.below gro⟩ ?_
 clear HB2 HK2
 rintro W1 ⟨hb1, K1⟩
 have HB1 := hd0 hb1
 have HK1 := hd0 K1
 have e9 : W1.cell? ⟨w.heap.size, 9, none⟩ = some (.slice da x.dm.length dc) := (K1.cell 9).trans (congrArg some HDV.out)
 clear hb1 K1
 go_wp2_with fail
 go_loopw [15, 4] (fun i v wr => ∃ k : Nat, k ≤ x.dm.length ∧ i = .int .i64 k ∧ Below W1.heap.size W1 wr ∧ wr.ownsRow W1.heap.size 156 2 v (chkI x (x.dm.take k)).length (fdCells (chkI x (x.dm.take k)))) (fun i _ _ => x.dm.length - (intOf i).toNat)
 case atStart => exact ⟨0, Nat.zero_le _, rfl, Below.refl _ _, World.ownsRow_nil _ _ _ _⟩
 case round =>
  obtain ⟨W3, rfl⟩ : ∃ W : World, W = wr := ⟨_, rfl⟩
  clear e9
  obtain ⟨k, hk, rfl, hb3, hrow⟩ := hrel
  have HB3 := hd0 hb3
  have HROW := hd0 hrow
  by_cases hlt : k < x.dm.length
  ·obtain ⟨hfo, bd, od, eda, hdc⟩ := HD4.out k hlt
   subst eda
   have HT := hd0 (show chkI x (x.dm.take (k + 1)) = chkI x (x.dm.take k) ++ (if (failD x (x.dm[k]'hlt)).isSome = true then [(x.dm[k]'hlt).name] else []) by rw [List.take_succ_eq_append_getElem hlt, chkI_snoc])
   have HOK := hd0 (fun w h => HSP.out k hlt w h)
   have HRL := hd0 (show (chkI x (x.dm.take k)).length ≤ 20 by have h1 := chkI_len x (x.dm.take k); have h2 : (x.dm.take k).length ≤ 20 := (by rw [List.length_take]; omega); omega)
   generalize failD x x.dm[k] = o at *
   generalize x.dm[k] = f at *
   generalize chkI x (x.dm.take k) = R at *
   obtain ⟨name, zone, steps, v⟩ := f
   have hst := hfo.steps
   simp only at hst
   obtain ⟨sa, sc, rfl, -, -, -⟩ := hst.shape
   obtain ⟨yb, eyb⟩ := ext_of (HB1.out.trans (Below.mono hb3 HB1.out.size))
   have hdc2 := hdc.ext yb
   rw [← eyb] at hdc2
   obtain ⟨c0, c1, c2, c3, c4, c5, c6, c7⟩ := hdc2
   simp only at c0 c1 c2 c3 c4 c5 c6 c7 HT
   obtain ⟨av, cv, rfl, -, hcv, -⟩ := own_shape hrow
   have hcv3 : cv ≤ 9223372036854775807 := hcv
   have i1 : (0 : Int) ≤ (k : Int) := by omega
   have i2 : (k : Int) < (x.dm.length : Int) := by omega
   have hg11 : W1.heap.size ≤ W3.heap.size := hb3.size
   generalize steps.length = ns at *
   clear hdc hfo hst eyb hrow hcv hb3
   go_upto_region 7 with fail
   refine world_mask (fun W => Below W3.heap.size W3 W ∧ Blk W W3.heap.size #[.string name, .int .i64 zone.lx, .int .i64 zone.ly, .int .i64 zone.lz, .int .i64 zone.hx, .int .i64 zone.hy, .int .i64 zone.hz, .slice sa ns sc] 43) _ ⟨gro, Blk.new _ _ _⟩ ?_
   clear c0 c1 c2 c3 c4 c5 c6 c7
   generalize hG : W3.heap.size = g6 at hg11 ⊢
   rintro W4 ⟨hb4, K4⟩
   rw [← hG] at hb4
   have HG := hd0 hG
   have HB4 := hd0 (HB3.out.trans (Below.mono hb4 HB3.out.size))
   have HRW4 := hd0 (own_grows HROW.out hb4)
   have HKD := hd0 (HK1.out.below HB4.out)
   have HBX := hd0 (HB1.out.trans (Below.mono HB4.out HB1.out.size))
   have c0e := fun y => (K4.ext y).cell 0
   have hsz4 := hb4.size
   clear hb4 K4 hG
   go_upto_region 10 with (first | (refine wpList_load_row rfl _ _ rfl _ rfl _ (dtC x) _ _ HKD.out rfl rfl rfl ?_) | (go_at_call 12; refine (HOK.out _ (HX.out.below HBX.out)).mono ?_; rintro e w' ⟨vs, Q, rfl, hown, hhd, y1, rfl⟩; have hpr := Prs.of_own hown; obtain ⟨pa, pc, epv, -⟩ := hpr.shape; subst epv; have c0 := c0e y1; clear hpr hown))
   have HB5 := hd0 (grow_ext y1 HB4.out)
   have HRW5 := hd0 (own_ext HRW4.out y1)
   have hsz5 : W4.heap.size ≤ (ext W4 y1).heap.size := by rw [size_ext]; omega
   clear HB4 HRW4 HKD HBX c0e
   generalize ext W4 y1 = W5 at *
   cases Q with
   | nil =>
     obtain rfl : o = none := hhd.symm
     rw [show (([] : List (Int × Int)).length) = 0 from rfl]
     clear c0 hhd
     go_wp2_with fail
     go_roundw
     case rel => exact ⟨k + 1, by omega, by go_num, HB5.out, by rw [HT.out]; simp only [Option.isSome_none, Bool.false_eq_true, if_false, List.append_nil]; exact HRW5.out⟩
     case measure => simp [intOf]; omega
   | cons q Q =>
     obtain rfl : o = some q.1 := hhd.symm
     rw [show (q :: Q).length = Q.length + 1 from rfl]
     have d1 : decide ((0 : Int) < ((Q.length + 1 : Nat) : Int)) = true := by simp
     have hrl20 := HRL.out
     have hsz2 := HG.out
     clear hhd
     go_wp2_with (at_builtin; refine app_own_b rfl _ _ 95 rfl 156 (.agg #[.int .i64 0, .string ⟨#[]⟩]) 2 24 Tryz.underlying95 info_fd rfl (by decide) (W1.heap.size) (.slice av R.length cv) (R.length) (fdCells R) _ rfl (HRW5.out.alloc _) _ 1 1 (fdCells [name]) rfl rfl (cells_new ?_ _ _ _ rfl) (fdCells_one _) (by omega) (by decide) ?_ ?_; (first | rfl | simp [size_ext]); (have := HG.out; simp only [World.size_alloc]; omega); intro v' w1 hown' hgrow; have HO2 := hd0 hown'; obtain ⟨a', c', rfl, _, hc2, -⟩ := own_shape hown'; have hc3 : c' ≤ 9223372036854775807 := hc2; have HGR := hd0 hgrow; clear hown' hgrow hc2)
     go_roundw
     case rel => exact ⟨k + 1, by omega, by go_num, (grow_alloc _ HB5.out).grown HGR.out (by have := HG.out; simp only [World.size_alloc]; omega) (fun j e => (HROW.out.lt j e).1), by rw [HT.out]; simp only [Option.isSome_some, if_true, List.length_append, fdCells_append]; exact HO2.out⟩
     case measure => simp [intOf]; omega
  ·obtain rfl : k = x.dm.length := by omega
   rw [List.take_length] at hrow HROW
   generalize chkI x x.dm = R at *
   obtain ⟨av, cv, erv, -, -, -⟩ := own_shape hrow
   subst erv
   clear hrow hb3
   go_wp2
   go_ret2
   exact ⟨_, rfl, own_mono HROW.out HB1.out.size, ext_of (HB1.out.trans (Below.mono HB3.out HB1.out.size))⟩
theorem Passes_c (x : Dt) (hv : DtV x) (hs : countS x.rs ≤ 16) (w : World) (h : DtAt w x) : Calls Tryz.prog 13 #[(.agg #[.string x.q.name, x.q.u, x.q.t, .int .i64 x.q.cover, .int .i64 x.q.agg, .int .i64 x.q.poker, x.lv, x.rv, x.pv, x.dv, .int .i64 x.ru.num, .int .i64 x.ru.den, .int .i64 x.ru.pn, .int .i64 x.ru.pd, .int .i64 x.ru.bn, .int .i64 x.ru.bd, .int .i64 x.ru.ln, .int .i64 x.ru.ld, .int .i64 x.ru.least])] w (Ret w (.tuple #[.bool (decide (chkI x x.dm = [])), .int .i64 0])) := by
 have HX := hd0 h
 have HCK := hd0 (fun w h => secCheck_c x hv hs w h)
 generalize chkI x x.dm = R at *
 clear h hv hs
 go_enter Tryz.func13, Tryz.ntmps13
 go_upto_region 1 with fail
 refine world_mask (fun W => Below w.heap.size w W ∧ Blk W w.heap.size (dtC x) 34) _ ⟨gro, Blk.new _ _ _⟩ ?_
 rintro W2 ⟨hb2, K2⟩
 have HB2 := hd0 hb2
 have HK2 := hd0 K2
 clear hb2 K2
 go_upto_region 2 with (first | (refine wpList_load_row rfl _ _ rfl _ rfl _ (dtC x) _ _ HK2.out rfl rfl rfl ?_) | (go_at_call 32; refine (HCK.out _ (HX.out.below HB2.out)).mono ?_; rintro e w' ⟨vs, rfl, hown, y1, rfl⟩; obtain ⟨pa, pc, epv, -, -, -⟩ := own_shape hown; subst epv; clear hown))
 have HB3 := hd0 (show Below w.heap.size w (ext W2 y1) from grob HB2.out)
 cases R with
 | nil =>
   rw [show (([] : List ByteArray).length) = 0 from rfl, show decide (([] : List ByteArray) = []) = true from rfl]
   go_wp2
   go_ret2
   exact Ret.of HB3.out
 | cons a R =>
   have d1 : (((R.length + 1 : Nat) : Int) == 0) = false := by simp; omega
   rw [show (a :: R).length = R.length + 1 from rfl, show decide (a :: R = []) = false from rfl]
   go_wp2
   go_ret2
   exact Ret.of HB3.out
end Go.Proofs.YtkjljneehgmmaaaGreat

