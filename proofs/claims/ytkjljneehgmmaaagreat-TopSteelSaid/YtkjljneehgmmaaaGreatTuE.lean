/- TopSteel: the law, walked. -/
import Derived.Test.YtkjljneehgmmaaaGreatTuD
import Derived.Test.YtkjljneehgmmaaaGreatAcK2
import Derived.Test.YtkjljneehgmmaaaGreatAcK5
import Derived.Deep.DeepCutAuto
import Derived.Deep.CutBlock
namespace Go.Proofs.YtkjljneehgmmaaaGreat
set_option linter.unusedVariables false
set_option linter.unusedSimpArgs false
open Go Go.RowKit
set_option maxRecDepth 20000

theorem failD_some (x : Dt) (hv : DtV x) (hs : countS x.rs ≤ 16) (f : Dm) (hf : DmV f) {q : Int} (h : failD x f = some q) :
  (-1048576 ≤ q ∧ q ≤ 1048576) ∧ valueI (supI x f) q < atS f.steps q ∧ ∀ r, r < q → atS f.steps r ≤ valueI (supI x f) r := by
 unfold failD at h
 have e : ∀ r, atS (supD x f) r = valueI (supI x f) r := fun r => supS_at (fun c hc => (supI_ok x hv f c hc).2.2.1) r
 obtain ⟨h1, h2⟩ := firstF_some h
 refine ⟨?_, by rw [← e]; exact h1, fun r hr => by rw [← e]; exact h2 r hr⟩
 have hm : q ∈ placesS (supD x f) f.steps := List.mem_of_find?_eq_some h
 obtain ⟨hm2, -⟩ := cutsL_spec ((supD x f ++ f.steps).map (·.1))
 obtain ⟨s, hsm, rfl⟩ := List.mem_map.1 ((hm2 _).1 hm)
 rcases List.mem_append.1 hsm with h3 | h3
 ·obtain ⟨i, hi, rfl⟩ := List.getElem_of_mem h3
  exact ((supD_ok x hv hs f).one i hi).1
 ·obtain ⟨i, hi, rfl⟩ := List.getElem_of_mem h3
  exact (hf.steps.one i hi).1
theorem failD_none (x : Dt) (hv : DtV x) (f : Dm) (h : failD x f = none) (r : Int) : atS f.steps r ≤ valueI (supI x f) r := by
 have := firstF_none h r
 unfold supD at this
 rw [supS_at (fun c hc => (supI_ok x hv f c hc).2.2.1)] at this
 exact this
theorem chk_all (x : Dt) : decide (chkI x x.dm = []) = (x.dm.all fun f => (failD x f).isNone) := by
 rw [Bool.eq_iff_iff, decide_eq_true_iff, List.all_eq_true]
 unfold chkI
 rw [List.map_eq_nil_iff, List.filter_eq_nil_iff]
 exact ⟨fun h f hf => (by have := h f hf; cases e : failD x f <;> simp_all), fun h f hf => (by have := h f hf; cases e : failD x f <;> simp_all)⟩
def okTo (x : Dt) (k : Nat) : Bool := (x.dm.take k).all fun f => (failD x f).isNone
theorem okTo_succ (x : Dt) {k : Nat} (h : k < x.dm.length) : okTo x (k + 1) = (okTo x k && (failD x x.dm[k]).isNone) := by
 unfold okTo
 rw [List.take_succ_eq_append_getElem h, List.all_append]
 simp
theorem okTo_end (x : Dt) : okTo x x.dm.length = decide (chkI x x.dm = []) := by
 rw [chk_all]; unfold okTo; rw [List.take_length]
theorem Dims.of_own {w : World} {base : Nat} {e : TypeId} {v : Value} {l : List Int} (h : w.ownsRow base e 1 v l.length (l.map (Value.int .i64))) : Dims w v l := by
 obtain ⟨a, cap, rfl, h1, h2, h3⟩ := own_shape h
 unfold maxLen at h2
 refine ⟨a, cap, rfl, h1, by omega, fun i hi => ?_⟩
 obtain ⟨g, rfl, _, hc⟩ := h3 (by omega)
 refine ⟨g, 0, rfl, ?_⟩
 rw [Nat.zero_add, hc _ (by omega)]
 simp [hi]
theorem own_ints {w : World} {base n : Nat} {e : TypeId} {v : Value} {l : List Int} (h : w.ownsRow base e 1 v n (l.map (Value.int .i64))) (hn : l.length = n) : ∃ a cap, v = .slice a n cap ∧ n ≤ cap ∧ cap ≤ 9223372036854775807 ∧ ∀ i (h : i < l.length), ∃ b off, a = some ⟨b, off, none⟩ ∧ w.cell? ⟨b, off + i, none⟩ = some (.int .i64 l[i]) := by
 subst hn
 exact Dims.of_own h
theorem spans_first {W : World} {base : Nat} {e : TypeId} {v : Value} {R : List (Int × Int)} {q : Int} (h : W.ownsRow base e 2 v R.length (pairCells R)) (hh : headI R = some q) : ∃ g n c, v = .slice (some ⟨g, 0, none⟩) n c ∧ 0 < n ∧ W.cell? ⟨g, 0, none⟩ = some (.int .i64 q) := by
 cases R with
 | nil => cases hh
 | cons r R =>
   obtain ⟨a, cap, rfl, -, -, h3⟩ := own_shape h
   obtain ⟨g, rfl, -, hc⟩ := h3 (by simp)
   refine ⟨g, _, cap, rfl, by simp, ?_⟩
   rw [hc 0 (by simp)]
   have e : r.1 = q := by simpa [headI] using hh
   rw [← e]
   exact (pairCells_get (r :: R) 0 (by simp)).1
structure TsRd (x : Dt) (w : World) (p : Int) (k : Nat) (V : Value) (nd hf : Int → Int) (S : List Int) (n : Nat) (o : Option Int) : Prop where
 dat : ∀ r W, Below w.heap.size w W → Calls Tryz.prog 6 #[V, .int .i64 r] W (Ret W (.tuple #[.int .i64 (nd r), .int .i64 0]))
 sat : ∀ r W, (-1048576 ≤ r ∧ r ≤ 1048576) → Below w.heap.size w W → Calls Tryz.prog 7 #[(.agg #[.string x.q.name, x.q.u, x.q.t, .int .i64 x.q.cover, .int .i64 x.q.agg, .int .i64 x.q.poker, x.lv, x.rv, x.pv, x.dv, .int .i64 x.ru.num, .int .i64 x.ru.den, .int .i64 x.ru.pn, .int .i64 x.ru.pd, .int .i64 x.ru.bn, .int .i64 x.ru.bd, .int .i64 x.ru.ln, .int .i64 x.ru.ld, .int .i64 x.ru.least]), .int .i64 k, .int .i64 r] W (Ret W (.tuple #[.int .i64 (hf r), .int .i64 0]))
 bars : ∀ W, Below w.heap.size w W → Calls Tryz.prog 8 #[(.agg #[.string x.q.name, x.q.u, x.q.t, .int .i64 x.q.cover, .int .i64 x.q.agg, .int .i64 x.q.poker, x.lv, x.rv, x.pv, x.dv, .int .i64 x.ru.num, .int .i64 x.ru.den, .int .i64 x.ru.pn, .int .i64 x.ru.pd, .int .i64 x.ru.bn, .int .i64 x.ru.bd, .int .i64 x.ru.ln, .int .i64 x.ru.ld, .int .i64 x.ru.least]), .int .i64 k, .int .i64 p] W (RetOwn2 W 3 1 n (S.map (Value.int .i64)))
 leg : ∀ j (h : j < S.length), ∃ g : Bx, (∀ W, Below w.heap.size w W → Calls Tryz.prog 9 #[(.agg #[.string x.q.name, x.q.u, x.q.t, .int .i64 x.q.cover, .int .i64 x.q.agg, .int .i64 x.q.poker, x.lv, x.rv, x.pv, x.dv, .int .i64 x.ru.num, .int .i64 x.ru.den, .int .i64 x.ru.pn, .int .i64 x.ru.pd, .int .i64 x.ru.bn, .int .i64 x.ru.bd, .int .i64 x.ru.ln, .int .i64 x.ru.ld, .int .i64 x.ru.least]), .int .i64 S[j]] W (Ret W (.tuple #[(.agg #[.int .i64 g.lx, .int .i64 g.ly, .int .i64 g.lz, .int .i64 g.hx, .int .i64 g.hy, .int .i64 g.hz]), .int .i64 0]))) ∧ (∀ W, Below w.heap.size w W → Calls Tryz.prog 10 #[V, (.agg #[.int .i64 g.lx, .int .i64 g.ly, .int .i64 g.lz, .int .i64 g.hx, .int .i64 g.hy, .int .i64 g.hz])] W (Ret W (.tuple #[.bool true, .int .i64 0]))) ∧ g.lx ≤ p ∧ p ≤ g.hx
 fails : ∀ W, Below w.heap.size w W → Calls Tryz.prog 11 #[(.agg #[.string x.q.name, x.q.u, x.q.t, .int .i64 x.q.cover, .int .i64 x.q.agg, .int .i64 x.q.poker, x.lv, x.rv, x.pv, x.dv, .int .i64 x.ru.num, .int .i64 x.ru.den, .int .i64 x.ru.pn, .int .i64 x.ru.pd, .int .i64 x.ru.bn, .int .i64 x.ru.bd, .int .i64 x.ru.ln, .int .i64 x.ru.ld, .int .i64 x.ru.least]), .int .i64 k] W (Ret W (failT o))
 spans : ∀ W, Below w.heap.size w W → Calls Tryz.prog 12 #[(.agg #[.string x.q.name, x.q.u, x.q.t, .int .i64 x.q.cover, .int .i64 x.q.agg, .int .i64 x.q.poker, x.lv, x.rv, x.pv, x.dv, .int .i64 x.ru.num, .int .i64 x.ru.den, .int .i64 x.ru.pn, .int .i64 x.ru.pd, .int .i64 x.ru.bn, .int .i64 x.ru.bd, .int .i64 x.ru.ln, .int .i64 x.ru.ld, .int .i64 x.ru.least]), .int .i64 k] W (RetSpans W o)
 len : S.length = n
 pos : 0 < hf p ↔ 0 < n
 non : o = none → ∀ r, nd r ≤ hf r
 fst : ∀ q, o = some q → (-1048576 ≤ q ∧ q ≤ 1048576) ∧ hf q < nd q ∧ ∀ r, r < q → nd r ≤ hf r
theorem tsRd (x : Dt) (hv : DtV x) (hs : countS x.rs ≤ 16) (w : World) (h : DtAt w x) (p : Int) (hp : -1048576 ≤ p ∧ p ≤ 1048576) (k : Nat) (hk : k < x.dm.length) (hok : DmOk w x.dm[k]) :
  TsRd x w p k (.agg #[.string (x.dm[k]).name, .int .i64 (x.dm[k]).zone.lx, .int .i64 (x.dm[k]).zone.ly, .int .i64 (x.dm[k]).zone.lz, .int .i64 (x.dm[k]).zone.hx, .int .i64 (x.dm[k]).zone.hy, .int .i64 (x.dm[k]).zone.hz, (x.dm[k]).v]) (atS (x.dm[k]).steps) (valueI (supI x x.dm[k])) (sorted (barsF x p (supAt x x.dm[k] p))) (sorted (barsF x p (supAt x x.dm[k] p))).length (failD x x.dm[k]) := by
 have hfv : DmV x.dm[k] := hv.dm _ (List.getElem_mem hk)
 constructor
 ·exact fun r W hb => demAt_c _ r hfv W (hok.below hb)
 ·exact fun r W hr hb => supAt_c x hv k hk r hr W (h.below hb)
 ·exact fun W hb => supBars_c x hv k hk p hp W (h.below hb)
 ·intro j hj
  obtain ⟨⟨h0, h1⟩, g, hg, hz, h2, h3⟩ := bars_over x hv x.dm[k] p _ (mem_sorted.1 (List.getElem_mem hj))
  refine ⟨g, fun W hb => supLeg_c x hv _ h0 h1 g hg W (h.below hb), fun W hb => ?_, h2, h3⟩
  have := demIn_c x.dm[k] g hfv (mainI_valid x hv h0 h1 hg).2 W (hok.below hb)
  rw [hz] at this
  exact this
 ·exact fun W hb => Fails_c x hv hs k hk W (h.below hb)
 ·exact fun W hb => Spans_sec_c x hv hs k hk W (h.below hb)
 ·rfl
 ·rw [have_bars x hv]
  have e : (sorted (barsF x p (supAt x x.dm[k] p))).length = (barsF x p (supAt x x.dm[k] p)).length := List.length_mergeSort _
  rw [e]
  exact List.length_pos_iff.symm
 ·exact fun e r => failD_none x hv _ e r
 ·exact fun q e => failD_some x hv hs _ hfv e
structure TsW (w W1 : World) (x : Dt) (g : Nat) (cs : Array Value) (W : World) : Prop where
 all : Below w.heap.size w W
 top : Below W1.heap.size W1 W
 dt : Blk W w.heap.size (dtC x) 34
 dm : Blk W g cs 43
theorem TsW.grow {w W1 : World} {x : Dt} {g : Nat} {cs : Array Value} {W W' : World} (h : TsW w W1 x g cs W) (hb : Below W.heap.size W W') : TsW w W1 x g cs W' :=
 ⟨h.all.trans (Below.mono hb h.all.size), h.top.trans (Below.mono hb h.top.size), h.dt.below hb, h.dm.below hb⟩
theorem tmod_range (t : Int) : -1048576 ≤ Int.tmod t 1048577 ∧ Int.tmod t 1048577 ≤ 1048576 := by
 have h1 := Int.tmod_lt_of_pos t (show (0 : Int) < 1048577 by decide)
 have h2 := Int.lt_tmod_of_pos t (show (0 : Int) < 1048577 by decide)
 omega
set_option maxRecDepth 100000 in
set_option maxHeartbeats 40000000 in
theorem lawTopSteel_c (x : Dt) (t : Int) (ht : -2147483648 ≤ t ∧ t ≤ 2147483647) (w : World) (h : DtAt w x) :
  Calls Tryz.prog 3 #[(.agg #[.string x.q.name, x.q.u, x.q.t, .int .i64 x.q.cover, .int .i64 x.q.agg, .int .i64 x.q.poker, x.lv, x.rv, x.pv, x.dv, .int .i64 x.ru.num, .int .i64 x.ru.den, .int .i64 x.ru.pn, .int .i64 x.ru.pd, .int .i64 x.ru.bn, .int .i64 x.ru.bd, .int .i64 x.ru.ln, .int .i64 x.ru.ld, .int .i64 x.ru.least]), .int .i32 t] w (Ret w (.bool true)) := by
 have HX := hd0 h
 obtain ⟨da, dc, edv, -, -, d4⟩ := h.dm.shape
 have HDV := hd0 edv
 have D4 := hd0 d4
 obtain ⟨p, hp⟩ : ∃ p, Int.tmod t 1048577 = p := ⟨_, rfl⟩
 have HP := hd0 (show -1048576 ≤ p ∧ p ≤ 1048576 by rw [← hp]; exact tmod_range t)
 have HPE := hd0 hp
 have wt : IntKind.i64.wrap t = t := IntWalk.i64_in _ (by omega)
 have wp : wrap64 p = p := IntWalk.wrap64_in _ (by have := HP.out; omega)
 clear edv d4 h ht hp
 go_enter Tryz.func3, Tryz.ntmps3
 go_upto_region 1 with fail
 refine world_mask (fun W => Below w.heap.size w W ∧ Blk W w.heap.size (dtC x) 34) _ ⟨gro, Blk.new _ _ _⟩ ?_
 rintro W1 ⟨hb1, K1⟩
 have HB1 := hd0 hb1
 have HK1 := hd0 K1
 clear hb1 K1
 go_wp2_with fail
 go_at_call 4; refine (reinAwake_c _).mono ?_; rintro e w' ⟨rfl, y1, rfl⟩
 have HB2 := hd0 (show Below w.heap.size w (ext W1 y1) from grob HB1.out)
 have HK2 := hd0 (HK1.out.ext y1)
 clear HB1 HK1
 generalize ext W1 y1 = W2 at *
 go_wp2_with (refine wpList_load_row rfl _ _ rfl _ rfl _ (dtC x) _ _ HK2.out rfl rfl rfl ?_)
 go_at_call 5; refine (reinRight_c x _ (HX.out.below HB2.out)).mono ?_; rintro e W ⟨q, rfl, hq, y2, rfl⟩
 have HQ := hd0 hq
 clear hq
 cases q
 ·go_wp2
  go_ret
  exact Ret.of (grob HB2.out)
 have HV := hd0 (HQ.out rfl).1
 have HS := hd0 (HQ.out rfl).2
 clear HQ
 have hpe := HPE.out
 have hpr := HP.out
 go_upto_region 6 with fail
 clear hpe hpr wt wp
 refine world_mask (fun W => Below w.heap.size w W ∧ Blk W w.heap.size (dtC x) 34) _ ⟨grob HB2.out, HK2.out.ext y2⟩ ?_
 clear HB2 HK2
 rintro W1 ⟨hb1, K1⟩
 have HB1 := hd0 hb1
 have HK1 := hd0 K1
 have e9 : W1.cell? ⟨w.heap.size, 9, none⟩ = some (.slice da x.dm.length dc) := (K1.cell 9).trans (congrArg some HDV.out)
 clear hb1 K1
 go_wp2_with fail
 go_loopw [44, 6] (fun i ps wr => ∃ k : Nat, k ≤ x.dm.length ∧ i = .int .i64 k ∧ ps = .bool (okTo x k) ∧ Below W1.heap.size W1 wr) (fun i _ _ => x.dm.length - (intOf i).toNat)
 case atStart => exact ⟨0, Nat.zero_le _, rfl, rfl, Below.refl _ _⟩
 case round =>
  obtain ⟨W3, rfl⟩ : ∃ W : World, W = wr := ⟨_, rfl⟩
  clear e9
  obtain ⟨k, hk, rfl, rfl, hb3⟩ := hrel
  have HB3 := hd0 hb3
  by_cases hlt : k < x.dm.length
  ·obtain ⟨hfo, bd, od, eda, hdc⟩ := D4.out k hlt
   subst eda
   have hdl := HV.out.dlen
   have i1 : (0 : Int) ≤ (k : Int) := by omega
   have i2 : (k : Int) < (x.dm.length : Int) := by omega
   obtain ⟨V, nd, hf, S, n, o, hV, hR, ho⟩ : ∃ V nd hf S n o, V = (.agg #[.string (x.dm[k]).name, .int .i64 (x.dm[k]).zone.lx, .int .i64 (x.dm[k]).zone.ly, .int .i64 (x.dm[k]).zone.lz, .int .i64 (x.dm[k]).zone.hx, .int .i64 (x.dm[k]).zone.hy, .int .i64 (x.dm[k]).zone.hz, (x.dm[k]).v]) ∧ TsRd x w p k V nd hf S n o ∧ failD x x.dm[k] = o := ⟨_, _, _, _, _, _, rfl, tsRd x HV.out HS.out w HX.out p HP.out k hlt hfo, rfl⟩
   have HOK := hd0 (show okTo x (k + 1) = (okTo x k && o.isNone) by rw [okTo_succ x hlt, ho])
   clear ho
   generalize okTo x k = ok at *
   generalize x.dm[k] = f at *
   obtain ⟨name, zone, steps, v⟩ := f
   have hst := hfo.steps
   simp only at hst
   obtain ⟨sa, sc, rfl, -, -, -⟩ := hst.shape
   simp only at hV
   subst hV
   have HR := hd0 hR
   obtain ⟨yb, eyb⟩ := ext_of (HB1.out.trans (Below.mono hb3 HB1.out.size))
   have hdc2 := hdc.ext yb
   rw [← eyb] at hdc2
   obtain ⟨c0, c1, c2, c3, c4, c5, c6, c7⟩ := hdc2
   simp only at c0 c1 c2 c3 c4 c5 c6 c7
   have HA3 := hd0 (HB1.out.trans (Below.mono hb3 HB1.out.size))
   have HK3 := hd0 (HK1.out.below hb3)
   generalize steps.length = ns at *
   clear hdc hfo hst eyb hb3 hR
   go_upto_region 10 with fail
   refine world_mask (fun W => TsW w W1 x W3.heap.size #[.string name, .int .i64 zone.lx, .int .i64 zone.ly, .int .i64 zone.lz, .int .i64 zone.hx, .int .i64 zone.hy, .int .i64 zone.hz, .slice sa ns sc] W) _ ⟨grob HA3.out, grob HB3.out, HK3.out.below gro, Blk.new _ _ _⟩ ?_
   clear c0 c1 c2 c3 c4 c5 c6 c7 HA3 HB3 HK3
   generalize W3.heap.size = g6
   intro W4 ht
   have HT := hd0 ht
   clear ht
   go_upto_region 11 with (first | (refine wpList_load_row rfl _ _ rfl _ rfl _ _ _ _ HT.out.dm rfl rfl rfl ?_) | (go_at_call 6; refine (HR.out.dat p _ HT.out.all).mono ?_; rintro e w' ⟨rfl, y1, rfl⟩))
   have HT2 := hd0 (HT.out.grow (show Below W4.heap.size W4 (ext W4 y1) from gro))
   clear HT
   have HT := HT2
   clear HT2
   generalize ext W4 y1 = W5 at *
   go_upto_region 12 with (first | (refine wpList_load_row rfl _ _ rfl _ rfl _ (dtC x) _ _ HT.out.dt rfl rfl rfl ?_) | (go_at_call 7; refine (HR.out.sat p _ HP.out HT.out.all).mono ?_; rintro e w' ⟨rfl, y2, rfl⟩))
   have HT2 := hd0 (HT.out.grow (show Below W5.heap.size W5 (ext W5 y2) from gro))
   clear HT
   have HT := HT2
   clear HT2
   generalize ext W5 y2 = W6 at *
   go_upto_region 13 with (first | (refine wpList_load_row rfl _ _ rfl _ rfl _ (dtC x) _ _ HT.out.dt rfl rfl rfl ?_) | (go_at_call 8; refine (HR.out.bars _ HT.out.all).mono ?_; rintro e w' ⟨vb, rfl, hown, y3, rfl⟩; obtain ⟨ba, bc, evb, hnc, hbc, b4⟩ := own_ints hown HR.out.len; subst evb; have hn63 : n ≤ 9223372036854775807 := Nat.le_trans hnc hbc; have B4 := hd0 b4; clear hown b4 hnc hbc))
   have HT2 := hd0 (HT.out.grow (show Below W6.heap.size W6 (ext W6 y3) from gro))
   clear HT
   have HT := HT2
   clear HT2
   generalize ext W6 y3 = W7 at *
   have hiff := HR.out.pos
   have HLN := hd0 HR.out.len
   have HLEG := hd0 HR.out.leg
   obtain ⟨t1, e1⟩ : ∃ t, decide (0 < hf p) = t := ⟨_, rfl⟩
   have e2 : decide (0 < n) = t1 := by rw [← e1]; exact decide_eq_decide.2 hiff.symm
   have e3 : decide ((0 : Int) < (n : Int)) = t1 := by rw [← e2]; exact decide_eq_decide.2 (by omega)
   have q0 : (t1 != t1) = false := by cases t1 <;> rfl
   clear hiff
   go_upto_region 15 with fail
   clear e1 e2 e3 q0
   go_wp2_with fail
   go_loopw [89] (fun j wr => ∃ m : Nat, m ≤ n ∧ j = .int .i64 m ∧ Below W7.heap.size W7 wr) (fun j _ => n - (intOf j).toNat)
   case atStart => exact ⟨0, Nat.zero_le _, rfl, Below.refl _ _⟩
   case round =>
    obtain ⟨W8, rfl⟩ : ∃ W : World, W = wr := ⟨_, rfl⟩
    obtain ⟨m, hm, rfl, hb8⟩ := hrel
    have HB8 := hd0 hb8
    by_cases hlm : m < n
    ·obtain ⟨bb, ob, eba, hc0⟩ := B4.out m (by rw [HLN.out]; exact hlm)
     cases eba
     have j1 : (0 : Int) ≤ (m : Int) := by omega
     have j2 : (m : Int) < (n : Int) := by omega
     have hlm2 : m < S.length := by rw [HLN.out]; exact hlm
     obtain ⟨g, hlg, hin, hlo, hhi⟩ := HLEG.out m hlm2
     have HLG := hd0 hlg
     have HIN := hd0 hin
     generalize S[m]'hlm2 = s at *
     have s0 := cell_below' hc0 hb8
     have l1 : decide (p < g.lx) = false := by simp; omega
     have l2 : decide (g.hx < p) = false := by simp; omega
     have HT8 := hd0 (HT.out.grow hb8)
     clear hlg hin hlo hhi hc0 hb8 HLEG hlm2
     go_upto_region 19 with (first | (refine wpList_load_row rfl _ _ rfl _ rfl _ (dtC x) _ _ HT8.out.dt rfl rfl rfl ?_) | (go_at_call 9; refine (HLG.out _ HT8.out.all).mono ?_; rintro e w' ⟨rfl, y4, rfl⟩))
     refine world_mask (fun W => Below W8.heap.size W8 W ∧ Blk W (W8.heap.size + y4.heap.size) #[.int .i64 g.lx, .int .i64 g.ly, .int .i64 g.lz, .int .i64 g.hx, .int .i64 g.hy, .int .i64 g.hz] 40) _ ⟨gro, Blk.new' (by rw [size_ext]) _ _⟩ ?_
     generalize W8.heap.size + y4.heap.size = gb
     rintro W9 ⟨hb9, K9⟩
     have HT9 := hd0 (HT8.out.grow hb9)
     have HB9 := hd0 (HB8.out.trans (Below.mono hb9 HB8.out.size))
     have HK9 := hd0 K9
     clear s0 hb9 K9 HT8 HB8
     go_upto_region 20 with (first | (refine wpList_load_row rfl _ _ rfl _ rfl _ _ _ _ HT9.out.dm rfl rfl rfl ?_) | (refine wpList_load_row rfl _ _ rfl _ rfl _ _ _ _ HK9.out rfl rfl rfl ?_) | (go_at_call 10; refine (HIN.out _ HT9.out.all).mono ?_; rintro e w' ⟨rfl, y5, rfl⟩))
     have g0 := (HK9.out.ext y5).cell 0
     have g3 := (HK9.out.ext y5).cell 3
     go_wp2_with fail
     go_roundw
     case rel => exact ⟨m + 1, by omega, by go_num, grob HB9.out⟩
     case measure => simp [intOf]; omega
    ·obtain rfl : m = n := by omega
     have HT8 := hd0 (HT.out.grow hb8)
     clear HT hb8 HB8 hm hlm HLEG
     cases o with
     | none =>
       have HFA := hd0 (show ∀ W, Below w.heap.size w W → Calls Tryz.prog 11 #[(.agg #[.string x.q.name, x.q.u, x.q.t, .int .i64 x.q.cover, .int .i64 x.q.agg, .int .i64 x.q.poker, x.lv, x.rv, x.pv, x.dv, .int .i64 x.ru.num, .int .i64 x.ru.den, .int .i64 x.ru.pn, .int .i64 x.ru.pd, .int .i64 x.ru.bn, .int .i64 x.ru.bd, .int .i64 x.ru.ln, .int .i64 x.ru.ld, .int .i64 x.ru.least]), .int .i64 k] W (Ret W (.tuple #[.int .i64 0, .int .i64 12])) from HR.out.fails)
       have l1 : decide (hf p < nd p) = false := by have := HR.out.non rfl p; simp; omega
       go_upto_region 24 with (first | (refine wpList_load_row rfl _ _ rfl _ rfl _ (dtC x) _ _ HT8.out.dt rfl rfl rfl ?_) | (go_at_call 11; refine (HFA.out _ HT8.out.all).mono ?_; rintro e w' ⟨rfl, y6, rfl⟩))
       go_wp2_with fail
       go_roundw
       case rel => exact ⟨k + 1, by omega, by go_num, by rw [HOK.out]; simp, (HT8.out.grow (show Below W8.heap.size W8 (ext W8 y6) from gro)).top⟩
       case measure => simp [intOf]; omega
     | some q =>
       have HFA := hd0 (show ∀ W, Below w.heap.size w W → Calls Tryz.prog 11 #[(.agg #[.string x.q.name, x.q.u, x.q.t, .int .i64 x.q.cover, .int .i64 x.q.agg, .int .i64 x.q.poker, x.lv, x.rv, x.pv, x.dv, .int .i64 x.ru.num, .int .i64 x.ru.den, .int .i64 x.ru.pn, .int .i64 x.ru.pd, .int .i64 x.ru.bn, .int .i64 x.ru.bd, .int .i64 x.ru.ln, .int .i64 x.ru.ld, .int .i64 x.ru.least]), .int .i64 k] W (Ret W (.tuple #[.int .i64 q, .int .i64 0])) from HR.out.fails)
       have HFQ := hd0 (HR.out.fst q rfl)
       go_upto_region 24 with (first | (refine wpList_load_row rfl _ _ rfl _ rfl _ (dtC x) _ _ HT8.out.dt rfl rfl rfl ?_) | (go_at_call 11; refine (HFA.out _ HT8.out.all).mono ?_; rintro e w' ⟨rfl, y6, rfl⟩))
       have HT := hd0 (HT8.out.grow (show Below W8.heap.size W8 (ext W8 y6) from gro))
       clear HT8 HFA
       generalize ext W8 y6 = W9 at *
       obtain ⟨t1, e1⟩ : ∃ t, decide (p < q) = t := ⟨_, rfl⟩
       have l2 : decide (nd q ≤ hf q) = false := by have := HFQ.out.2.1; simp; omega
       go_upto_region 30 with fail
       go_cut [150] (fun s wx => s = .bool false ∧ Below W9.heap.size W9 wx)
       case first =>
        clear l2
        cases t1
        ·go_wp2
         go_meet
         exact ⟨rfl, Below.refl _ _⟩
        ·have l1 : decide (hf p < nd p) = false := by have := HFQ.out.2.2 p (by simpa using e1); simp; omega
         go_wp2
         go_meet
         exact ⟨rfl, Below.refl _ _⟩
       case rest =>
        clear e1
        obtain ⟨rfl, hbw⟩ := hcut
        obtain ⟨Wz, rfl⟩ : ∃ W : World, W = wc := ⟨_, rfl⟩
        have HT2 := hd0 (HT.out.grow hbw)
        clear HT hbw
        have HT := HT2
        clear HT2
        go_upto_region 33 with (first | (refine wpList_load_row rfl _ _ rfl _ rfl _ _ _ _ HT.out.dm rfl rfl rfl ?_) | (go_at_call 6; refine (HR.out.dat q _ HT.out.all).mono ?_; rintro e w' ⟨rfl, y7, rfl⟩))
        have HT2 := hd0 (HT.out.grow (show Below Wz.heap.size Wz (ext Wz y7) from gro))
        clear HT
        have HT := HT2
        clear HT2
        generalize ext Wz y7 = Wa at *
        go_upto_region 34 with (first | (refine wpList_load_row rfl _ _ rfl _ rfl _ (dtC x) _ _ HT.out.dt rfl rfl rfl ?_) | (go_at_call 7; refine (HR.out.sat q _ HFQ.out.1 HT.out.all).mono ?_; rintro e w' ⟨rfl, y8, rfl⟩))
        have HT2 := hd0 (HT.out.grow (show Below Wa.heap.size Wa (ext Wa y8) from gro))
        clear HT
        have HT := HT2
        clear HT2
        generalize ext Wa y8 = Wb at *
        go_upto_region 36 with fail
        clear l2
        by_cases hq0 : -1048576 < q
        ·have r1 : decide (-1048576 < q) = true := by simpa using hq0
         have l3 : decide (hf (q - 1) < nd (q - 1)) = false := by have := HFQ.out.2.2 (q - 1) (by omega); simp; omega
         have wq : wrap64 (q - 1) = q - 1 := IntWalk.wrap64_in _ (by have := HFQ.out.1.2; omega)
         have HQ1 := hd0 (show -1048576 ≤ q - 1 ∧ q - 1 ≤ 1048576 by have := HFQ.out.1.2; omega)
         clear hq0
         go_upto_region 37 with fail
         clear r1
         go_upto_region 38 with (first | (refine wpList_load_row rfl _ _ rfl _ rfl _ _ _ _ HT.out.dm rfl rfl rfl ?_) | (go_at_call 6; refine (HR.out.dat (q - 1) _ HT.out.all).mono ?_; rintro e w' ⟨rfl, y9, rfl⟩))
         have HT2 := hd0 (HT.out.grow (show Below Wb.heap.size Wb (ext Wb y9) from gro))
         clear HT
         have HT := HT2
         clear HT2
         generalize ext Wb y9 = Wc at *
         go_upto_region 39 with (first | (refine wpList_load_row rfl _ _ rfl _ rfl _ (dtC x) _ _ HT.out.dt rfl rfl rfl ?_) | (go_at_call 7; refine (HR.out.sat (q - 1) _ HQ1.out HT.out.all).mono ?_; rintro e w' ⟨rfl, ya, rfl⟩))
         have HT2 := hd0 (HT.out.grow (show Below Wc.heap.size Wc (ext Wc ya) from gro))
         clear HT
         have HT := HT2
         clear HT2
         generalize ext Wc ya = Wd at *
         clear wq
         go_upto_region 41 with fail
         clear l3
         go_upto_region 42 with (first | (refine wpList_load_row rfl _ _ rfl _ rfl _ (dtC x) _ _ HT.out.dt rfl rfl rfl ?_) | (go_at_call 12; refine (HR.out.spans _ HT.out.all).mono ?_; rintro e w' ⟨vs, R, rfl, hown, hhd, yb, rfl⟩; obtain ⟨g5, n5, c5, evs, hn5, p0⟩ := spans_first hown hhd; subst evs; clear hown hhd))
         have HTT := hd0 (HT.out.grow (show Below Wd.heap.size Wd (ext Wd yb) from gro))
         clear HT
         have d0 : ((n5 : Int) == 0) = false := by rw [beq_eq_false_iff_ne]; omega
         have d1 : (0 : Int) < (n5 : Int) := by omega
         have d2 : (q != q) = false := by simp
         go_wp2_with fail
         go_roundw
         case rel => exact ⟨k + 1, by omega, by go_num, by rw [HOK.out]; simp, HTT.out.top⟩
         case measure => simp [intOf]; omega
        ·have r1 : decide (-1048576 < q) = false := by simpa using hq0
         clear hq0
         go_upto_region 41 with fail
         clear r1
         go_upto_region 42 with (first | (refine wpList_load_row rfl _ _ rfl _ rfl _ (dtC x) _ _ HT.out.dt rfl rfl rfl ?_) | (go_at_call 12; refine (HR.out.spans _ HT.out.all).mono ?_; rintro e w' ⟨vs, R, rfl, hown, hhd, yb, rfl⟩; obtain ⟨g5, n5, c5, evs, hn5, p0⟩ := spans_first hown hhd; subst evs; clear hown hhd))
         have HTT := hd0 (HT.out.grow (show Below Wb.heap.size Wb (ext Wb yb) from gro))
         clear HT
         have d0 : ((n5 : Int) == 0) = false := by rw [beq_eq_false_iff_ne]; omega
         have d1 : (0 : Int) < (n5 : Int) := by omega
         have d2 : (q != q) = false := by simp
         go_wp2_with fail
         go_roundw
         case rel => exact ⟨k + 1, by omega, by go_num, by rw [HOK.out]; simp, HTT.out.top⟩
         case measure => simp [intOf]; omega
  ·obtain rfl : k = x.dm.length := by omega
   have HPS := hd0 (fun w h => (by have := Passes_c x HV.out HS.out w h; rw [← okTo_end] at this; exact this : Calls Tryz.prog 13 #[(.agg #[.string x.q.name, x.q.u, x.q.t, .int .i64 x.q.cover, .int .i64 x.q.agg, .int .i64 x.q.poker, x.lv, x.rv, x.pv, x.dv, .int .i64 x.ru.num, .int .i64 x.ru.den, .int .i64 x.ru.pn, .int .i64 x.ru.pd, .int .i64 x.ru.bn, .int .i64 x.ru.bd, .int .i64 x.ru.ln, .int .i64 x.ru.ld, .int .i64 x.ru.least])] w (Ret w (.tuple #[.bool (okTo x x.dm.length), .int .i64 0]))))
   have HVS := hd0 (fun v w h hsr => (by have := verSections_c x HV.out HS.out v w h hsr; rw [← okTo_end] at this; exact this : Calls Tryz.prog 15 #[(.agg #[.string x.q.name, x.q.u, x.q.t, .int .i64 x.q.cover, .int .i64 x.q.agg, .int .i64 x.q.poker, x.lv, x.rv, x.pv, x.dv, .int .i64 x.ru.num, .int .i64 x.ru.den, .int .i64 x.ru.pn, .int .i64 x.ru.pd, .int .i64 x.ru.bn, .int .i64 x.ru.bd, .int .i64 x.ru.ln, .int .i64 x.ru.ld, .int .i64 x.ru.least]), v] w (Ret w (.tuple #[.bool (okTo x x.dm.length), .int .i64 0]))))
   have HCM := hd0 (fun w h => claimMake_c x HV.out HS.out w h)
   have HCC := hd0 (fun v f s q hc w h hsr => claimCheck_c x HV.out HS.out v f s q hc w h hsr)
   have HA3 := hd0 (HB1.out.trans (Below.mono hb3 HB1.out.size))
   have HK3 := hd0 (HK1.out.below hb3)
   generalize okTo x x.dm.length = b at *
   have q1 : (b != b) = false := by cases b <;> rfl
   have q2 : (b == b) = true := by cases b <;> rfl
   clear hb3 HB1 HK1 HB3 D4
   go_upto_region 46 with (first | (refine wpList_load_row rfl _ _ rfl _ rfl _ (dtC x) _ _ HK3.out rfl rfl rfl ?_) | (go_at_call 13; refine (HPS.out _ (HX.out.below HA3.out)).mono ?_; rintro e w' ⟨rfl, z1, rfl⟩))
   have HA4 := hd0 (show Below w.heap.size w (ext W3 z1) from grob HA3.out)
   have HK4 := hd0 (HK3.out.ext z1)
   clear HA3 HK3
   generalize ext W3 z1 = W4 at *
   go_upto_region 47 with (first | (refine wpList_load_row rfl _ _ rfl _ rfl _ (dtC x) _ _ HK4.out rfl rfl rfl ?_) | (go_at_call 14; refine (HCM.out _ (HX.out.below HA4.out)).mono ?_; rintro e w' ⟨v, f, s, q, rfl, hsr, hok, z2, rfl⟩; have HSR := hd0 hsr; have HCO := hd0 hok; obtain ⟨va, vc, evv, -⟩ := hsr.shape; subst evv; clear hsr hok))
   refine world_mask (fun W => Below w.heap.size w W ∧ Blk W w.heap.size (dtC x) 34 ∧ StsR W (.slice va (supsI x).length vc) (supsI x) ∧ Blk W (W4.heap.size + z2.heap.size) #[.slice va (supsI x).length vc, .int .i64 f, .int .i64 s, .int .i64 q] 64) _ ⟨grob HA4.out, HK4.out.below gro, HSR.out.below gro, Blk.new' (by rw [size_ext]) _ _⟩ ?_
   generalize W4.heap.size + z2.heap.size = gc
   clear HA4 HK4 HSR
   rintro W5 ⟨hb5, K5, hsr, KC⟩
   have HA5 := hd0 hb5
   have HK5 := hd0 K5
   have HSR := hd0 hsr
   have HKC := hd0 KC
   clear hb5 K5 hsr KC
   have k0 := HKC.out.cell 0
   go_upto_region 50 with (first | (refine wpList_load_row rfl _ _ rfl _ rfl _ (dtC x) _ _ HK5.out rfl rfl rfl ?_) | (go_at_call 15; refine (HVS.out _ _ (HX.out.below HA5.out) HSR.out).mono ?_; rintro e w' ⟨rfl, z3, rfl⟩))
   have HA6 := hd0 (show Below w.heap.size w (ext W5 z3) from grob HA5.out)
   have HK6 := hd0 (HK5.out.ext z3)
   have HSR6 := hd0 (HSR.out.below (show Below W5.heap.size W5 (ext W5 z3) from gro))
   have HKC6 := hd0 (HKC.out.ext z3)
   clear HA5 HK5 HSR HKC k0
   generalize ext W5 z3 = W6 at *
   go_wp2_with (first | (refine wpList_load_row rfl _ _ rfl _ rfl _ (dtC x) _ _ HK6.out rfl rfl rfl ?_) | (refine wpList_load_row rfl _ _ rfl _ rfl _ _ _ _ HKC6.out rfl rfl rfl ?_) | (go_at_call 16; refine (HCC.out _ f s q HCO.out _ (HX.out.below HA6.out) HSR6.out).mono ?_; rintro e w' ⟨rfl, z4, rfl⟩))
   go_ret
   exact Ret.of (grob HA6.out)
end Go.Proofs.YtkjljneehgmmaaaGreat
