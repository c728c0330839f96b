/- TsS, TsT, TsU in one text. -/
import Derived.Test.YtkjljneehgmmaaaGreatAbK4
import Derived.Test.YtkjljneehgmmaaaGreatTsG
import Derived.Test.YtkjljneehgmmaaaGreatAbK3
namespace Go.Proofs.YtkjljneehgmmaaaGreat
set_option linter.unusedVariables false
set_option linter.unusedSimpArgs false
open Go Go.RowKit
set_option maxRecDepth 20000

theorem rodsMark_c (b : Br) (m : ByteArray) (g : Nat) (w : World) (hg : w.cell? ⟨g, 0, none⟩ = some (.string m)) : Calls Tryz.prog 67 #[(.agg #[.string b.mark, .int .i64 b.size, .int .i64 b.count, .int .i64 b.code, b.dv]), .pointer (some ⟨g, 0, none⟩)] w (Ret w (.bool (b.mark.toList == m.toList))) := by
 go_enter Tryz.func67, Tryz.ntmps67
 go_wp2
 go_ret
 exact Ret.of gro
theorem enters_rodsMark : Enters 67 := enters_of Tryz.func67 (by decide) (by simp [Tryz.f67])
set_option maxHeartbeats 4000000 in
theorem rodsMain_c (g : Bx) (w : World) : Calls Tryz.prog 69 #[(.agg #[.int .i64 g.lx, .int .i64 g.ly, .int .i64 g.lz, .int .i64 g.hx, .int .i64 g.hy, .int .i64 g.hz])] w (Ret w (.bool (mainB g))) := by
 unfold mainB
 cases h1 : decide (g.lx < g.hx)
 ·go_enter Tryz.func69, Tryz.ntmps69
  go_wp2
  go_ret
  exact Ret.of gro
 ·rw [show decide (g.ly = g.hy) = (g.ly == g.hy) by rw [Bool.eq_iff_iff]; simp, show decide (g.lz = g.hz) = (g.lz == g.hz) by rw [Bool.eq_iff_iff]; simp]
  cases h2 : (g.ly == g.hy)
  ·go_enter Tryz.func69, Tryz.ntmps69
   go_wp2
   go_ret
   exact Ret.of gro
  ·cases h3 : (g.lz == g.hz)
   all_goals
    go_enter Tryz.func69, Tryz.ntmps69
    go_wp2
    go_ret
    exact Ret.of gro
theorem enters_rodsMain : Enters 69 := enters_of Tryz.func69 (by decide) (by simp [Tryz.f69])
structure Rod where
 bar : Br
 legs : List Bx
 main : Int
def mainAt (l : List Bx) : Int := ((l.findIdx? mainB).map (fun i : Nat => (i : Int))).getD (-1)
def rodI (l : List Br) (rs : List Rn) (i : Int) : Rod := ⟨barOf l (markI rs i), legsI l rs i, mainAt (legsI l rs i)⟩
def rodsTo (l : List Br) (rs : List Rn) (n : Nat) : List Rod := (List.range n).map fun i : Nat => rodI l rs i
theorem rodsTo_succ (l : List Br) (rs : List Rn) (n : Nat) : rodsTo l rs (n + 1) = rodsTo l rs n ++ [rodI l rs n] := by simp [rodsTo, List.range_succ]
theorem rodsTo_length (l : List Br) (rs : List Rn) (n : Nat) : (rodsTo l rs n).length = n := by simp [rodsTo]
def rod1 (r : Rod) (u : Value) : List Value := [.string r.bar.mark, .int .i64 r.bar.size, .int .i64 r.bar.count, .int .i64 r.bar.code, r.bar.dv, u, .int .i64 r.main]
def rodCells (L : List (Rod × Value)) : List Value := L.flatMap fun p => rod1 p.1 p.2
theorem rodCells_app (a b : List (Rod × Value)) : rodCells (a ++ b) = rodCells a ++ rodCells b := by unfold rodCells; rw [List.flatMap_append]
structure Rods (w W : World) (v : Value) (L : List Rod) : Prop where
 row : ∃ P : List (Rod × Value), P.map (·.1) = L ∧ W.ownsRow w.heap.size 83 7 v L.length (rodCells P) ∧ ∀ p ∈ P, W.ownsRow w.heap.size 40 6 p.2 p.1.legs.length (boxCells p.1.legs)
theorem Rods.nil (w W : World) : Rods w W (.slice none 0 0) [] := ⟨[], rfl, World.ownsRow_nil _ _ _ _, fun p hp => by cases hp⟩
theorem Rods.grows {w W W' : World} {v : Value} {L : List Rod} (h : Rods w W v L) (hb : Below W.heap.size W W') : Rods w W' v L := by
 obtain ⟨P, h1, h2, h3⟩ := h.row
 exact ⟨P, h1, own_grows h2 hb, fun p hp => own_grows (h3 p hp) hb⟩
theorem Rods.app {w W W' : World} {v v' u : Value} {L : List Rod} {P : List (Rod × Value)} {r : Rod} (h1 : P.map (·.1) = L) (h2 : W.ownsRow w.heap.size 83 7 v L.length (rodCells P)) (h3 : ∀ p ∈ P, W.ownsRow w.heap.size 40 6 p.2 p.1.legs.length (boxCells p.1.legs))
  (hu : W.ownsRow w.heap.size 40 6 u r.legs.length (boxCells r.legs)) (hown : W'.ownsRow w.heap.size 83 7 v' (L.length + 1) (rodCells P ++ rod1 r u)) (hg : W.grownBy W' v.ownBlock) : Rods w W' v' (L ++ [r]) := by
 have hin : ∀ {z : Value} {n : Nat} {xs : List Value}, W.ownsRow w.heap.size 40 6 z n xs → W'.ownsRow w.heap.size 40 6 z n xs := fun {z n xs} hz => own_heap hz fun b hb => hg.block b (hz.lt b hb).2 (own_apart hz h2 (by decide) b hb)
 refine ⟨P ++ [(r, u)], by simp [h1], ?_, fun p hp => ?_⟩
 ·rw [rodCells_app, List.length_append]
  simpa [rodCells] using hown
 ·rcases List.mem_append.1 hp with hp | hp
  ·exact hin (h3 p hp)
  ·obtain rfl := List.mem_singleton.1 hp
   exact hin hu
theorem info_rod : (Tryz.prog.info? 83).map (fun i => (i.zero, i.size, i.bytes)) = some (some (.agg #[.string ⟨#[]⟩, .int .i64 0, .int .i64 0, .int .i64 0, .slice none 0 0, .slice none 0 0, .int .i64 0]), 7, 96) := by kernel_rfl

structure RdJ (w : World) (x : Dt) (v : Value) (k : Nat) (W : World) : Prop where
 below : Below w.heap.size w W
 dt : Blk W w.heap.size (dtC x) 34
 rods : Rods w W v (rodsTo x.l x.rs k)
theorem RdJ.grows {w W W' : World} {x : Dt} {v : Value} {k : Nat} (h : RdJ w x v k W) (hb : Below W.heap.size W W') : RdJ w x v k W' := ⟨h.below.trans (Below.mono hb h.below.size), h.dt.below hb, h.rods.grows hb⟩
set_option maxRecDepth 100000 in
set_option maxHeartbeats 16000000 in
theorem rods_c (x : Dt) (hv : DtV x) (w : World) (h : DtAt w x) : Calls Tryz.prog 28 #[(.agg #[.string x.q.name, x.q.u, x.q.t, .int .i64 x.q.cover, .int .i64 x.q.agg, .int .i64 x.q.poker, x.lv, x.rv, x.pv, x.dv, .int .i64 x.ru.num, .int .i64 x.ru.den, .int .i64 x.ru.pn, .int .i64 x.ru.pd, .int .i64 x.ru.bn, .int .i64 x.ru.bd, .int .i64 x.ru.ln, .int .i64 x.ru.ld, .int .i64 x.ru.least])] w (fun e W => ∃ v, e = .returned (.tuple #[v, .int .i64 0]) ∧ Rods w W v (rodsTo x.l x.rs (countS x.rs).toNat) ∧ ∃ y, W = ext w y) := by
 have HX := hd0 h
 have HV := hd0 hv
 have HC := hd0 (fun w hl hr => count_c x.l x.rs x.lv x.rv w hl hr)
 rw [show countE x.l x.rs = (countS x.rs, 0) by unfold countE; rw [if_pos hv.laid]] at HC
 have hc0 : 0 ≤ countS x.rs := by have h := (count_le hv.laid x.rs.length).1; rw [List.take_length] at h; exact h
 have hc1 := (count_le hv.laid 0).2.2
 obtain ⟨la, lc, elv, hl2, hl3, hl4⟩ := h.l.shape
 have HELV := hd0 elv
 have HL4 := hd0 hl4
 have hlb := h.l
 rw [elv] at hlb
 have HLB := hd0 hlb
 clear h hv elv hl4 hlb
 go_enter Tryz.func28, Tryz.ntmps28
 go_upto_region 1 with fail
 refine world_mask (fun W => Below w.heap.size w W ∧ Blk W w.heap.size (dtC x) 34) _ ⟨gro, Blk.new _ _ _⟩ ?_
 rintro W1 ⟨hb1, K1⟩
 have HB1 := hd0 hb1
 have HK1 := hd0 K1
 have c6 : W1.cell? ⟨w.heap.size, 6, none⟩ = some x.lv := K1.cell 6
 have c7 : W1.cell? ⟨w.heap.size, 7, none⟩ = some x.rv := K1.cell 7
 clear hb1 K1
 go_upto_region 5 with (go_at_call 44; refine (HC.out _ (HX.out.l.below (grob HB1.out)) (HX.out.rs.below (grob HB1.out))).mono ?_; rintro e w' ⟨rfl, x1, rfl⟩)
 refine world_mask (fun W => RdJ w x (.slice none 0 0) 0 W) _ ⟨grob HB1.out, HK1.out.below gro, Rods.nil _ _⟩ ?_
 clear c6 c7 HB1 HK1
 intro W2 J
 go_wp2_with fail
 go_loopw [23, 6] (fun i v wr => ∃ k : Nat, (k : Int) ≤ countS x.rs ∧ i = .int .i64 k ∧ RdJ w x v k wr) (fun i _ _ => (countS x.rs).toNat - (intOf i).toNat)
 case atStart => exact ⟨0, hc0, rfl, J⟩
 case round =>
  clear J
  obtain ⟨W3, rfl⟩ : ∃ W : World, W = wr := ⟨_, rfl⟩
  obtain ⟨k, hk, rfl, J⟩ := hrel
  have HJ := hd0 J
  have c6 : W3.cell? ⟨w.heap.size, 6, none⟩ = some x.lv := J.dt.cell 6
  have c7 : W3.cell? ⟨w.heap.size, 7, none⟩ = some x.rv := J.dt.cell 7
  clear J
  obtain ⟨P, hP, hrow, hin⟩ := HJ.out.rods.row
  obtain ⟨av, cv, rfl, -, hcv, -⟩ := own_shape hrow
  have HP := hd0 hP
  have HROW := hd0 hrow
  have HIN := hd0 hin
  clear hP hrow hin
  by_cases hlt : (k : Int) < countS x.rs
  ·have q1 : (0 : Int) ≤ (k : Int) := by omega
   obtain ⟨hmk, hfi, r0, hm0, hmr⟩ := mark_of HV.out.laid q1 hlt
   have HMK := hd0 (fun w hl hr => mark_v x.l x.rs x.lv x.rv k _ _ hmk (by omega) w hl hr)
   have HLG := hd0 (fun w hl hr => legsLaid_c x.l x.rs x.lv x.rv k w hl hr)
   rw [show legsE x.l x.rs k = (legsI x.l x.rs k, 0) by unfold legsE; rw [if_pos HV.out.laid, if_pos ⟨q1, hlt⟩]] at HLG
   have HQ := hd0 (And.intro q1 hlt)
   clear hmk hm0 hmr
   go_upto_region 11 with (go_at_call 64; refine (HMK.out _ (HX.out.l.below HJ.out.below) (HX.out.rs.below HJ.out.below)).mono ?_; rintro e w' ⟨rfl, x2, rfl⟩)
   refine world_mask (fun W => Below W3.heap.size W3 W ∧ Blk W (W3.heap.size + x2.heap.size) #[.string (markI x.rs k)] 9) _ ⟨gro, Blk.new' (by simp only [size_ext]) _ _⟩ ?_
   have hg8 : W3.heap.size ≤ W3.heap.size + x2.heap.size := by omega
   clear c6 c7
   generalize W3.heap.size + x2.heap.size = g8 at *
   rintro W4 ⟨hb4, K8⟩
   have HB4 := hd0 hb4
   have HK8 := hd0 K8
   clear hb4 K8
   go_upto_region 12 with fail
   refine world_mask (fun W => Below W3.heap.size W3 W ∧ Blk W g8 #[.string (markI x.rs k)] 9 ∧ Blk W W4.heap.size #[.string ⟨#[]⟩, .int .i64 0, .int .i64 0, .int .i64 0, .slice none 0 0, .slice none 0 0, .int .i64 0] 83) _ ⟨grob HB4.out, HK8.out.below gro, Blk.new _ _ _⟩ ?_
   have hg10 : W3.heap.size ≤ W4.heap.size := HB4.out.size
   have hne : g8 ≠ W4.heap.size := by have := HK8.out.lt; omega
   clear HB4 HK8
   generalize W4.heap.size = g10 at *
   rintro W5 ⟨hb5, K8, K10⟩
   have HB5 := hd0 hb5
   have HK8 := hd0 K8
   have HK10 := hd0 K10
   have c6 : W5.cell? ⟨w.heap.size, 6, none⟩ = some x.lv := (HJ.out.dt.below hb5).cell 6
   have c7 : W5.cell? ⟨w.heap.size, 7, none⟩ = some x.rv := (HJ.out.dt.below hb5).cell 7
   have f5 : ∀ y, (ext W5 y).frozen? ⟨g10, 5, none⟩ = false := fun y => (K10.ext y).frozen 5
   have t5 : ∀ y, (ext W5 y).cell? ⟨g10, 5, none⟩ = some (.slice none 0 0) := fun y => (K10.ext y).cell 5
   clear hb5 K8 K10
   go_upto_region 15 with (go_at_call 65; refine (HLG.out _ (HX.out.l.below (HJ.out.below.trans (Below.mono HB5.out HJ.out.below.size))) (HX.out.rs.below (HJ.out.below.trans (Below.mono HB5.out HJ.out.below.size)))).mono ?_; rintro e w' ⟨vl, rfl, hown, y1, rfl⟩; obtain ⟨al, cl, rfl, -, hcl, -⟩ := own_shape hown; have HVL := hd0 hown; have f5' := f5 y1; have t5' := t5 y1; clear hown)
   have hrow5 := own_mono (base' := W3.heap.size) HVL.out HB5.out.size
   refine world_mask (fun W => Below W3.heap.size W3 W ∧ Blk W g8 #[.string (markI x.rs k)] 9 ∧ Blk W g10 #[.string ⟨#[]⟩, .int .i64 0, .int .i64 0, .int .i64 0, .slice none 0 0, .slice al (legsI x.l x.rs k).length cl, .int .i64 0] 83 ∧ W.ownsRow W3.heap.size 40 6 (.slice al (legsI x.l x.rs k).length cl) (legsI x.l x.rs k).length (boxCells (legsI x.l x.rs k))) _ ⟨Below.setCell (show Below W3.heap.size W3 (ext W5 y1) from grob HB5.out) hg10 _, (HK8.out.ext y1).other hne _, (HK10.out.ext y1).set 5 _, own_heap hrow5 fun b hb => Below.heap_setCell _ _ _ _ (fun e => ((HK10.out.ext y1).ne_row hrow5 (by decide)) (by rw [hb, e]))⟩ ?_
   clear c6 c7 f5 t5 f5' t5' hrow5 HVL HB5 HK8 HK10
   rintro W6 ⟨hb6, K8, K10, hvl⟩
   have HB6 := hd0 hb6
   have H8 := hd0 K8
   have H10 := hd0 K10
   have HVL := hd0 hvl
   have hbw := HJ.out.below.trans (Below.mono hb6 HJ.out.below.size)
   have HBW := hd0 hbw
   obtain ⟨kf, hkf, efi, ebar, emk⟩ := bar_at hfi
   obtain ⟨hbok, b8, o8, ela, hba⟩ := HL4.out kf hkf
   subst ela
   have H6 := hd0 (show W6.cell? ⟨w.heap.size, 6, none⟩ = some (.slice (some ⟨b8, o8, none⟩) x.l.length lc) from ((HJ.out.dt.below hb6).cell 6).trans (congrArg some HELV.out))
   have HG10 := hd0 (Nat.le_trans HJ.out.below.size hg10)
   have HNE := hd0 (show w.heap.size ≠ g10 ∧ b8 ≠ g10 from ⟨by have := HJ.out.dt.lt; omega, by have := World.block_lt_of_cell? w _ hba.1; have := HJ.out.below.size; simp only at *; omega⟩)
   have HN8 := hd0 hne
   have HIX := hd0 (fun (W : World) (hl : Bars W (.slice (some ⟨b8, o8, none⟩) x.l.length lc) x.l) (h8 : Blk W g8 #[.string (markI x.rs k)] 9) => indexBar_c _ enters_rodsMark #[.pointer (some ⟨g8, 0, none⟩)] (markI x.rs k) x.l _ W hl (fun b y _ => rodsMark_c b (markI x.rs k) g8 _ ((h8.ext y).cell 0)))
   rw [efi] at HIX
   have HBAR := hd0 ebar
   have p1 : (0 : Int) ≤ (kf : Int) := by omega
   have p2 : (kf : Int) < (x.l.length : Int) := by omega
   have hbd := hba.below' hbw
   obtain ⟨ad, cd, ed, -, -, -⟩ := hbok.dims
   clear hb6 K8 K10 hvl hbw hbok hba efi ebar emk
   generalize x.l[kf] = b at *
   obtain ⟨bm, bs, bc, bcode, bdims, bdv⟩ := b
   obtain ⟨d0, d1, d2, d3, d4⟩ := hbd
   simp only at d0 d1 d2 d3 d4 ed
   subst ed
   have HD := hd0 (And.intro d0 (And.intro d1 (And.intro d2 (And.intro d3 d4))))
   clear d0 d1 d2 d3 d4
   have hpart : PartG [9] (LtJ 83 W6 g10 9 #[.string ⟨#[]⟩, .int .i64 0, .int .i64 0, .int .i64 0, .slice none 0 0, .slice al (legsI x.l x.rs k).length cl, .int .i64 0] #[.string bm, .int .i64 bs, .int .i64 bc, .int .i64 bcode, .slice ad bdims.length cd, .slice al (legsI x.l x.rs k).length cl, .int .i64 0]) := LtJ.part
   have HPART := hd0 hpart
   clear hpart
   refine wp_region_G [.pointer (some ⟨w.heap.size, 6, none⟩), .slice (some ⟨b8, o8, none⟩) x.l.length lc, .pointer (some ⟨w.heap.size, 6, none⟩), .slice (some ⟨b8, o8, none⟩) x.l.length lc, .func (.func 67) #[] #[.pointer (some ⟨g8, 0, none⟩)], .int .i64 (kf : Int), .pointer (some ⟨b8, o8 + kf * 5, none⟩), .agg #[.string bm, .int .i64 bs, .int .i64 bc, .int .i64 bcode, .slice ad bdims.length cd], .pointer (some ⟨g10, 0, none⟩), undef] [9] (LtJ 83 W6 g10 9 #[.string ⟨#[]⟩, .int .i64 0, .int .i64 0, .int .i64 0, .slice none 0 0, .slice al (legsI x.l x.rs k).length cl, .int .i64 0] #[.string bm, .int .i64 bs, .int .i64 bc, .int .i64 bcode, .slice ad bdims.length cd, .slice al (legsI x.l x.rs k).length cl, .int .i64 0]) (by kernel_rfl) (by kernel_rfl) ?_ ?_ ?_
   ·intro vs hlen
    exact LtJ.init (repL (show 9 < 10 by decide)) H10.out
   ·intro L vs W i hlen hJ hi
    obtain ⟨x0, vs0, rfl, hlen0⟩ := len_cons hlen
    obtain ⟨x1, vs1, rfl, hlen1⟩ := len_cons hlen0
    obtain ⟨x2, vs2, rfl, hlen2⟩ := len_cons hlen1
    obtain ⟨x3, vs3, rfl, hlen3⟩ := len_cons hlen2
    obtain ⟨x4, vs4, rfl, hlen4⟩ := len_cons hlen3
    obtain ⟨x5, vs5, rfl, hlen5⟩ := len_cons hlen4
    obtain ⟨x6, vs6, rfl, hlen6⟩ := len_cons hlen5
    obtain ⟨x7, vs7, rfl, hlen7⟩ := len_cons hlen6
    obtain ⟨x8, vs8, rfl, hlen8⟩ := len_cons hlen7
    obtain ⟨x9, vs9, rfl, hlen9⟩ := len_cons hlen8
    obtain rfl := len_nil hlen9
    clear hlen hlen0 hlen1 hlen2 hlen3 hlen4 hlen5 hlen6 hlen7 hlen8 hlen9
    obtain ⟨hun, o, ho, hd⟩ := mem_ready.1 hi
    have hin : i < 10 := by have := (Array.getElem?_eq_some_iff.1 ho).1; simpa using this
    refine wpOp_free (B := fun a' W' => ∃ x0 x1 x2 x3 x4 x5 x6 x7 x8 x9, a' = putAll _ [x0, x1, x2, x3, x4, x5, x6, x7, x8, x9] _ ∧ InvG _ _ _ [x0, x1, x2, x3, x4, x5, x6, x7, x8, x9] (L.setIfInBounds i true) W') (fun _ _ h => by obtain ⟨x0, x1, x2, x3, x4, x5, x6, x7, x8, x9, h1, h2⟩ := h; exact ⟨[x0, x1, x2, x3, x4, x5, x6, x7, x8, x9], rfl, h1, h2⟩) ?_
    intro K HK
    simp only [putAll_cons, putAll_nil, put_some, put_none, List.setIfInBounds_toArray, List.set_cons_succ, List.set_cons_zero] at HK ⊢
    have z6 := hJ.part.cell H6.out (HNE.out.1)
    have z10 := hJ.part.cell HD.out.1 (HNE.out.2)
    have z11 := hJ.part.cell HD.out.2.1 (HNE.out.2)
    have z12 := hJ.part.cell HD.out.2.2.1 (HNE.out.2)
    have z13 := hJ.part.cell HD.out.2.2.2.1 (HNE.out.2)
    have z14 := hJ.part.cell HD.out.2.2.2.2 (HNE.out.2)
    rcases (show i = 0 ∨ i = 1 ∨ i = 2 ∨ i = 3 ∨ i = 4 ∨ i = 5 ∨ i = 6 ∨ i = 7 ∨ i = 8 ∨ i = 9 by omega) with rfl | rfl | rfl | rfl | rfl | rfl | rfl | rfl | rfl | rfl
    ·obtain rfl := Option.some.inj ho
     refine wpOp_of_list (by rfl) ?_
     go_wp2
     exact HK.out _ _ ⟨_, _, _, _, _, _, _, _, _, _, rfl, hJ.up HPART.out 0 (by decide) (show 0 < 10 by decide) rfl⟩
    ·obtain rfl := Option.some.inj ho
     have d0 : x0 = .pointer (some ⟨w.heap.size, 6, none⟩) := hJ.val 0 (show 0 < 10 by decide) (by decide) (getD_upJ (hd ⟨0, .data⟩ (by simp) (by rfl)))
     subst d0
     refine wpOp_of_list (by rfl) ?_
     go_wp2
     exact HK.out _ _ ⟨_, _, _, _, _, _, _, _, _, _, rfl, hJ.up HPART.out 1 (by decide) (show 1 < 10 by decide) rfl⟩
    ·obtain rfl := Option.some.inj ho
     refine wpOp_of_list (by rfl) ?_
     go_wp2
     exact HK.out _ _ ⟨_, _, _, _, _, _, _, _, _, _, rfl, hJ.up HPART.out 2 (by decide) (show 2 < 10 by decide) rfl⟩
    ·obtain rfl := Option.some.inj ho
     have d2 : x2 = .pointer (some ⟨w.heap.size, 6, none⟩) := hJ.val 2 (show 2 < 10 by decide) (by decide) (getD_upJ (hd ⟨2, .data⟩ (by simp) (by rfl)))
     subst d2
     refine wpOp_of_list (by rfl) ?_
     go_wp2
     exact HK.out _ _ ⟨_, _, _, _, _, _, _, _, _, _, rfl, hJ.up HPART.out 3 (by decide) (show 3 < 10 by decide) rfl⟩
    ·obtain rfl := Option.some.inj ho
     refine wpOp_of_list (by rfl) ?_
     go_wp2
     exact HK.out _ _ ⟨_, _, _, _, _, _, _, _, _, _, rfl, hJ.up HPART.out 4 (by decide) (show 4 < 10 by decide) rfl⟩
    ·obtain rfl := Option.some.inj ho
     have d3 : x3 = .slice (some ⟨b8, o8, none⟩) x.l.length lc := hJ.val 3 (show 3 < 10 by decide) (by decide) (getD_upJ (hd ⟨3, .data⟩ (by simp) (by rfl)))
     have d4 : x4 = .func (.func 67) #[] #[.pointer (some ⟨g8, 0, none⟩)] := hJ.val 4 (show 4 < 10 by decide) (by decide) (getD_upJ (hd ⟨4, .data⟩ (by simp) (by rfl)))
     subst d3 d4
     have hbw : Below w.heap.size w W := ⟨hJ.part.os.trans HBW.out.os, hJ.part.tape.trans HBW.out.tape, hJ.part.output.trans HBW.out.output, Nat.le_trans HBW.out.size hJ.part.size, fun k hk => by rw [hJ.part.frame k (Nat.lt_of_lt_of_le hk HBW.out.size) (by have := HNE.out.1; have := HG10.out; omega)]; exact HBW.out.block k hk⟩
     have h8w := H8.out.of_block (hJ.part.frame g8 H8.out.lt HN8.out)
     have HIC := hd0 (HIX.out W (HLB.out.below hbw) h8w)
     clear hbw h8w
     refine wpOp_of_list (by rfl) ?_
     go_wp2_with fail
     go_at_call 66; refine (HIC.out).mono ?_; rintro e w' ⟨rfl, xq, rfl⟩
     go_wp2
     exact HK.out _ _ ⟨_, _, _, _, _, _, _, _, _, _, rfl, (hJ.grow HPART.out _).up HPART.out 5 (by decide) (show 5 < 10 by decide) rfl⟩
    ·obtain rfl := Option.some.inj ho
     have d1 : x1 = .slice (some ⟨b8, o8, none⟩) x.l.length lc := hJ.val 1 (show 1 < 10 by decide) (by decide) (getD_upJ (hd ⟨1, .data⟩ (by simp) (by rfl)))
     have d5 : x5 = .int .i64 (kf : Int) := hJ.val 5 (show 5 < 10 by decide) (by decide) (getD_upJ (hd ⟨5, .data⟩ (by simp) (by rfl)))
     subst d1 d5
     refine wpOp_of_list (by rfl) ?_
     go_wp2
     exact HK.out _ _ ⟨_, _, _, _, _, _, _, _, _, _, rfl, hJ.up HPART.out 6 (by decide) (show 6 < 10 by decide) rfl⟩
    ·obtain rfl := Option.some.inj ho
     have d6 : x6 = .pointer (some ⟨b8, o8 + kf * 5, none⟩) := hJ.val 6 (show 6 < 10 by decide) (by decide) (getD_upJ (hd ⟨6, .data⟩ (by simp) (by rfl)))
     subst d6
     refine wpOp_of_list (by rfl) ?_
     go_wp2
     exact HK.out _ _ ⟨_, _, _, _, _, _, _, _, _, _, rfl, hJ.up HPART.out 7 (by decide) (show 7 < 10 by decide) rfl⟩
    ·obtain rfl := Option.some.inj ho
     refine wpOp_of_list (by rfl) ?_
     go_wp2
     exact HK.out _ _ ⟨_, _, _, _, _, _, _, _, _, _, rfl, hJ.up HPART.out 8 (by decide) (show 8 < 10 by decide) rfl⟩
    ·obtain rfl := Option.some.inj ho
     have d7 : x7 = .agg #[.string bm, .int .i64 bs, .int .i64 bc, .int .i64 bcode, .slice ad bdims.length cd] := hJ.val 7 (show 7 < 10 by decide) (by decide) (getD_upJ (hd ⟨7, .data⟩ (by simp) (by rfl)))
     have d8 : x8 = .pointer (some ⟨g10, 0, none⟩) := hJ.val 8 (show 8 < 10 by decide) (by decide) (getD_upJ (hd ⟨8, .data⟩ (by simp) (by rfl)))
     subst d7 d8
     have hb := hJ.part.blk0 hun
     have qf0 : W.frozen? ⟨g10, 0, none⟩ = false := hb.frozen 0
     have qf1 : W.frozen? ⟨g10, 1, none⟩ = false := hb.frozen 1
     have qf2 : W.frozen? ⟨g10, 2, none⟩ = false := hb.frozen 2
     have qf3 : W.frozen? ⟨g10, 3, none⟩ = false := hb.frozen 3
     have qf4 : W.frozen? ⟨g10, 4, none⟩ = false := hb.frozen 4
     have qg0 : W.cell? ⟨g10, 0, none⟩ = some (.string ⟨#[]⟩) := hb.cell 0
     have qg1 : W.cell? ⟨g10, 1, none⟩ = some (.int .i64 0) := hb.cell 1
     have qg2 : W.cell? ⟨g10, 2, none⟩ = some (.int .i64 0) := hb.cell 2
     have qg3 : W.cell? ⟨g10, 3, none⟩ = some (.int .i64 0) := hb.cell 3
     have qg4 : W.cell? ⟨g10, 4, none⟩ = some (.slice none 0 0) := hb.cell 4
     have HST := hd0 (hJ.part.store (W' := putL W g10 0 [.string bm, .int .i64 bs, .int .i64 bc, .int .i64 bcode, .slice ad bdims.length cd]) (fun k hk => putL_other _ _ _ _ k hk) (putL_size _ _ _ _) (putL_rest _ _ _ _) (((((hb.set 0 (.string bm)).set 1 (.int .i64 bs)).set 2 (.int .i64 bc)).set 3 (.int .i64 bcode)).set 4 (.slice ad bdims.length cd)))
     clear hb
     refine wpOp_of_list (by rfl) ?_
     go_wp2
     exact HK.out _ _ ⟨_, _, _, _, _, _, _, _, _, _, rfl, hJ.spec0 9 (by decide) HST.out⟩
   ·intro vs L W hlen hJ hall
    obtain ⟨x0, vs0, rfl, hlen0⟩ := len_cons hlen
    obtain ⟨x1, vs1, rfl, hlen1⟩ := len_cons hlen0
    obtain ⟨x2, vs2, rfl, hlen2⟩ := len_cons hlen1
    obtain ⟨x3, vs3, rfl, hlen3⟩ := len_cons hlen2
    obtain ⟨x4, vs4, rfl, hlen4⟩ := len_cons hlen3
    obtain ⟨x5, vs5, rfl, hlen5⟩ := len_cons hlen4
    obtain ⟨x6, vs6, rfl, hlen6⟩ := len_cons hlen5
    obtain ⟨x7, vs7, rfl, hlen7⟩ := len_cons hlen6
    obtain ⟨x8, vs8, rfl, hlen8⟩ := len_cons hlen7
    obtain ⟨x9, vs9, rfl, hlen9⟩ := len_cons hlen8
    obtain rfl := len_nil hlen9
    clear hlen hlen0 hlen1 hlen2 hlen3 hlen4 hlen5 hlen6 hlen7 hlen8 hlen9
    have d0 : x0 = .pointer (some ⟨w.heap.size, 6, none⟩) := hJ.val 0 (show 0 < 10 by decide) (by decide) (hall 0 (of_decide_eq_true (by kernel_rfl)))
    have d1 : x1 = .slice (some ⟨b8, o8, none⟩) x.l.length lc := hJ.val 1 (show 1 < 10 by decide) (by decide) (hall 1 (of_decide_eq_true (by kernel_rfl)))
    have d2 : x2 = .pointer (some ⟨w.heap.size, 6, none⟩) := hJ.val 2 (show 2 < 10 by decide) (by decide) (hall 2 (of_decide_eq_true (by kernel_rfl)))
    have d3 : x3 = .slice (some ⟨b8, o8, none⟩) x.l.length lc := hJ.val 3 (show 3 < 10 by decide) (by decide) (hall 3 (of_decide_eq_true (by kernel_rfl)))
    have d4 : x4 = .func (.func 67) #[] #[.pointer (some ⟨g8, 0, none⟩)] := hJ.val 4 (show 4 < 10 by decide) (by decide) (hall 4 (of_decide_eq_true (by kernel_rfl)))
    have d5 : x5 = .int .i64 (kf : Int) := hJ.val 5 (show 5 < 10 by decide) (by decide) (hall 5 (of_decide_eq_true (by kernel_rfl)))
    have d6 : x6 = .pointer (some ⟨b8, o8 + kf * 5, none⟩) := hJ.val 6 (show 6 < 10 by decide) (by decide) (hall 6 (of_decide_eq_true (by kernel_rfl)))
    have d7 : x7 = .agg #[.string bm, .int .i64 bs, .int .i64 bc, .int .i64 bcode, .slice ad bdims.length cd] := hJ.val 7 (show 7 < 10 by decide) (by decide) (hall 7 (of_decide_eq_true (by kernel_rfl)))
    have d8 : x8 = .pointer (some ⟨g10, 0, none⟩) := hJ.val 8 (show 8 < 10 by decide) (by decide) (hall 8 (of_decide_eq_true (by kernel_rfl)))
    subst d0 d1 d2 d3 d4 d5 d6 d7 d8
    have hb10 := hJ.part.blk1 (hall 9 (of_decide_eq_true (by kernel_rfl)))
    have hb7 : Below W3.heap.size W3 W := ⟨hJ.part.os.trans HB6.out.os, hJ.part.tape.trans HB6.out.tape, hJ.part.output.trans HB6.out.output, Nat.le_trans HB6.out.size hJ.part.size, fun k hk => by rw [hJ.part.frame k (Nat.lt_of_lt_of_le hk HB6.out.size) (by omega)]; exact HB6.out.block k hk⟩
    have hvl7 := own_heap HVL.out (w' := W) fun c hc => hJ.part.frame c (HVL.out.lt c hc).2 (fun e => (H10.out.ne_row HVL.out (by decide)) (by rw [hc, e]))
    have HB7 := hd0 hb7
    have HV7 := hd0 hvl7
    have H107 := hd0 hb10
    have HIB := hd0 (fun (W : World) (hl : Boxes W (.slice al (legsI x.l x.rs k).length cl) (legsI x.l x.rs k)) => indexFunc_c _ enters_rodsMain #[] mainB (legsI x.l x.rs k) _ W hl (fun g y _ => rodsMain_c g _))
    have t5 : W.cell? ⟨g10, 5, none⟩ = some (.slice al (legsI x.l x.rs k).length cl) := hb10.cell 5
    have f6 : ∀ y, (ext W y).frozen? ⟨g10, 6, none⟩ = false := fun y => (hb10.ext y).frozen 6
    have t6 : ∀ y, (ext W y).cell? ⟨g10, 6, none⟩ = some (.int .i64 0) := fun y => (hb10.ext y).cell 6
    clear hJ hall hb10 hb7 hvl7 H10 HVL HB6
    simp only [putAll_cons, putAll_nil, put_some, put_none, List.setIfInBounds_toArray, List.set_cons_succ, List.set_cons_zero]
    go_upto_region 17 with (go_at_call 68; refine (HIB.out _ (Boxes.of_own HV7.out)).mono ?_; rintro e w' ⟨rfl, y2, rfl⟩; have f6' := f6 y2; have t6' := t6 y2)
    refine world_mask (fun W => Below W3.heap.size W3 W ∧ Blk W g10 #[.string bm, .int .i64 bs, .int .i64 bc, .int .i64 bcode, .slice ad bdims.length cd, .slice al (legsI x.l x.rs k).length cl, .int .i64 (mainAt (legsI x.l x.rs k))] 83 ∧ W.ownsRow W3.heap.size 40 6 (.slice al (legsI x.l x.rs k).length cl) (legsI x.l x.rs k).length (boxCells (legsI x.l x.rs k))) _ ⟨Below.setCell (show Below W3.heap.size W3 (ext W y2) from grob HB7.out) hg10 _, (H107.out.ext y2).set 6 _, own_heap (own_grows HV7.out (below_ext W y2)) fun c hc => Below.heap_setCell _ _ _ _ (fun e => ((H107.out.ext y2).ne_row (own_grows HV7.out (below_ext W y2)) (by decide)) (by rw [hc, e]))⟩ ?_
    clear t5 f6 t6 f6' t6' HB7 HV7 H107
    rintro W8 ⟨hb8, K10, hv8⟩
    have HB8 := hd0 hb8
    have HK10 := hd0 K10
    have HV8 := hd0 hv8
    have hcv3 : cv ≤ 9223372036854775807 := hcv
    have HRL := hd0 (rodsTo_length x.l x.rs k)
    have HRN := hd0 (show rodI x.l x.rs k = ⟨⟨bm, bs, bc, bcode, bdims, .slice ad bdims.length cd⟩, legsI x.l x.rs k, mainAt (legsI x.l x.rs k)⟩ by unfold rodI; rw [HBAR.out])
    clear hb8 K10 hv8 hcv
    go_wp2_with (first | (refine wpList_load_row rfl _ _ rfl _ rfl _ _ _ _ HK10.out rfl rfl rfl ?_) | (at_builtin; refine app_own_b rfl _ _ 73 rfl 83 (.agg #[.string ⟨#[]⟩, .int .i64 0, .int .i64 0, .int .i64 0, .slice none 0 0, .slice none 0 0, .int .i64 0]) 7 96 Tryz.underlying73 info_rod rfl (by decide) w.heap.size (.slice av (rodsTo x.l x.rs k).length cv) (rodsTo x.l x.rs k).length (rodCells P) _ rfl ((own_grows HROW.out HB8.out).alloc _) _ 1 1 (rod1 ⟨⟨bm, bs, bc, bcode, bdims, .slice ad bdims.length cd⟩, legsI x.l x.rs k, mainAt (legsI x.l x.rs k)⟩ (.slice al (legsI x.l x.rs k).length cl)) rfl rfl (cells_new ?_ _ _ _ rfl) (by simp [rod1, Value.oneCell']) (by have := HRL.out; omega) (by decide) ?_ ?_; (first | rfl | simp [size_ext]); (have := HB8.out.size; have := HJ.out.below.size; simp only [World.size_alloc]; omega); intro v' w1 hown' hgrow; have HO2 := hd0 hown'; obtain ⟨a', c', rfl, -, hc2, -⟩ := own_shape hown'; have hc3 : c' ≤ 9223372036854775807 := hc2; have HGR := hd0 hgrow; clear hown' hgrow hc2))
    go_roundw
    case rel => exact ⟨k + 1, by omega, by go_num, ⟨((HJ.out.below.trans (Below.mono HB8.out HJ.out.below.size)).trans (Below.mono (B := W8.heap.size) gro (Nat.le_trans HJ.out.below.size HB8.out.size))).grown HGR.out (by have := HB8.out.size; have := HJ.out.below.size; simp only [World.size_alloc]; omega) (fun b e => (HROW.out.lt b e).1), ((HJ.out.dt.below HB8.out).alloc _).grown HGR.out ((HJ.out.dt.below HB8.out).ne_row (own_grows HROW.out HB8.out) (by decide)), by rw [rodsTo_succ, HRN.out]; exact Rods.app HP.out ((own_grows HROW.out HB8.out).alloc _) (fun p hp => (own_grows (HIN.out p hp) HB8.out).alloc _) ((own_mono HV8.out HJ.out.below.size).alloc _) HO2.out HGR.out⟩⟩
    case measure => simp [intOf]; omega
  ·have hkn : k = (countS x.rs).toNat := by omega
   have HKN := hd0 hkn
   clear hkn
   go_wp2
   go_ret2
   exact ⟨_, rfl, by rw [← HKN.out]; exact HJ.out.rods, ext_of HJ.out.below⟩

def kOf (x : Dt) (i : Int) : Nat := ((legsI x.l x.rs i).findIdx? mainB).getD 0
def endA (x : Dt) (i : Int) (g : Bx) : Int × Int := endsI x.ru x.q (barOf x.l (markI x.rs i)) (legsI x.l x.rs i) (kOf x i) g
def minBy (f : Int → Int) (a : Int) : List Int → Int
 | [] => a
 | b :: l => minBy f (if f b < f a then b else a) l
def thinI (x : Dt) : List Int → Int
 | [] => 0
 | a :: l => minBy (sizeI x.l x.rs) a l
def spanI (x : Dt) (a z : Int) : Option (Int × Int) :=
 match mainI x.l x.rs a, mainI x.l x.rs z with
 | some g, some h => if g.lx + (endA x a g).1 < h.hx - (endA x z h).2 then some (g.lx + (endA x a g).1, h.hx - (endA x z h).2) else none
 | _, _ => none
def areaC (x : Dt) (bars : List Int) : Int := areaI (sizeI x.l x.rs (thinI x bars))
def chOf (bars : List Int) (a : Int) : Option (Int × Int) → Ch
 | some s => ⟨bars, s.1, s.2, true, a⟩
 | none => ⟨bars, 0, 0, false, a⟩
def chI (x : Dt) (bars : List Int) : Ch := chOf bars (areaC x bars) (spanI x (bars.headD 0) (bars.getLast?.getD 0))
def chsI (x : Dt) : List Ch := (chnI x).map (chI x)
def outB (x : Dt) (z : Dm) (i : Int) : Bool := match mainI x.l x.rs i with | none => true | some g => !zoneB z g
def supC (x : Dt) (z : Dm) (c : Ch) : Bool := c.is && !(c.bars.any (outB x z))
def supI (x : Dt) (z : Dm) : List Ch := (chsI x).filter (supC x z)

theorem minBy_mem (f : Int → Int) : ∀ (l : List Int) (a : Int), minBy f a l = a ∨ minBy f a l ∈ l := by
 intro l
 induction l with
 | nil => intro a; exact .inl rfl
 | cons b l ih =>
   intro a
   unfold minBy
   split
   ·rcases ih b with h | h
    ·rw [h]; exact .inr List.mem_cons_self
    ·exact .inr (List.mem_cons_of_mem _ h)
   ·rcases ih a with h | h
    ·exact .inl h
    ·exact .inr (List.mem_cons_of_mem _ h)
theorem thinI_mem (x : Dt) {l : List Int} (h : l ≠ []) : thinI x l ∈ l := by
 cases l with
 | nil => exact absurd rfl h
 | cons a l =>
   show minBy (sizeI x.l x.rs) a l ∈ a :: l
   rcases minBy_mem (sizeI x.l x.rs) l a with e | e
   ·rw [e]; exact List.mem_cons_self
   ·exact List.mem_cons_of_mem _ e
structure ChnOk (x : Dt) (c : List Int) : Prop where
 ne : c ≠ []
 len : c.length ≤ 2097155
 one : ∀ j ∈ c, 0 ≤ j ∧ j < countS x.rs
theorem chnI_ok (x : Dt) (hv : DtV x) : ∀ c ∈ chnI x, ChnOk x c ∧ ∃ i, c = chainF x.lp 2097154 i := by
 intro c hc
 unfold chnI chnTo at hc
 obtain ⟨i, hi, rfl⟩ := List.mem_map.1 hc
 have h1 := (List.mem_filter.1 hi).1
 obtain ⟨k, hk, rfl⟩ := List.mem_map.1 h1
 have hk2 := List.mem_range.1 hk
 obtain ⟨t, ht⟩ := chainF_ne (lp := x.lp) 2097154 (k : Int)
 refine ⟨⟨by rw [ht]; exact List.cons_ne_nil _ _, chainF_length _ _ _, fun j hj => ?_⟩, _, rfl⟩
 rcases chainF_mem (lp := x.lp) _ _ _ hj with rfl | ⟨m, hm⟩
 ·omega
 ·exact ((lpOk_of x hv).one _ hm).2.1
theorem barOf_ok (x : Dt) (hv : DtV x) {i : Int} (h0 : 0 ≤ i) (h1 : i < countS x.rs) : shapeB (barOf x.l (markI x.rs i)) = true := by
 obtain ⟨-, hf, -⟩ := mark_of hv.laid h0 h1
 obtain ⟨k, hk, -, e, -⟩ := bar_at hf
 rw [e]
 exact schedB_shape (laidB_iff.1 hv.laid).1 _ (List.getElem_mem hk)
theorem sizeI_ok (x : Dt) (hv : DtV x) {i : Int} (h0 : 0 ≤ i) (h1 : i < countS x.rs) : sizeB (sizeI x.l x.rs i) = true := (shape_facts (barOf_ok x hv h0 h1)).2.2.1
theorem areaC_ok (x : Dt) (hv : DtV x) {c : List Int} (h : ChnOk x c) : sizeB (sizeI x.l x.rs (thinI x c)) = true ∧ 1 ≤ areaC x c ∧ areaC x c ≤ 130000 := by
 obtain ⟨h0, h1⟩ := h.one _ (thinI_mem x h.ne)
 have hs := sizeI_ok x hv h0 h1
 refine ⟨hs, ?_⟩
 unfold areaC
 rcases size_iff.1 hs with e | e | e | e | e | e | e | e | e <;> rw [e] <;> decide
theorem mainI_valid (x : Dt) (hv : DtV x) {i : Int} (h0 : 0 ≤ i) (h1 : i < countS x.rs) {g : Bx} (h : mainI x.l x.rs i = some g) : mainB g = true ∧ validB g = true := ⟨List.find?_some h, legsI_valid hv.laid h0 h1 g (List.mem_of_find?_eq_some h)⟩
theorem endA_nonneg (x : Dt) (hv : DtV x) {i : Int} (h0 : 0 ≤ i) (h1 : i < countS x.rs) (g : Bx) : (0 ≤ (endA x i g).1 ∧ (endA x i g).1 ≤ 50001002001) ∧ 0 ≤ (endA x i g).2 ∧ (endA x i g).2 ≤ 50001002001 := by
 have hs := size_range (shape_facts (barOf_ok x hv h0 h1)).2.2.1
 exact ⟨length_range hv.ru (by omega) _ _, length_range hv.ru (by omega) _ _⟩
structure ChOk (x : Dt) (c : Ch) : Prop where
 chn : ChnOk x c.bars
 fuel : ∃ i, c.bars = chainF x.lp 2097154 i
 area : 1 ≤ c.area ∧ c.area ≤ 130000
 range : (-1048576 ≤ c.lo ∧ c.lo ≤ 1048576) ∧ -1048576 ≤ c.hi ∧ c.hi ≤ 1048576
 span : c.is = true → c.lo < c.hi ∧ ∃ a z, mainI x.l x.rs (c.bars.headD 0) = some a ∧ mainI x.l x.rs (c.bars.getLast?.getD 0) = some z ∧ a.lx ≤ c.lo ∧ c.hi ≤ z.hx
theorem head_mem {c : List Int} (h : c ≠ []) : c.headD 0 ∈ c := by
 cases c with
 | nil => exact absurd rfl h
 | cons a l => exact List.mem_cons_self
theorem last_mem {c : List Int} (h : c ≠ []) : c.getLast?.getD 0 ∈ c := by
 rw [List.getLast?_eq_some_getLast h]
 exact List.getLast_mem h
theorem range0 : (-1048576 ≤ (0 : Int) ∧ (0 : Int) ≤ 1048576) ∧ -1048576 ≤ (0 : Int) ∧ (0 : Int) ≤ 1048576 := by decide
theorem chI_ok (x : Dt) (hv : DtV x) {c : List Int} (hc : c ∈ chnI x) : ChOk x (chI x c) := by
 obtain ⟨h, hf⟩ := chnI_ok x hv c hc
 have ha := (areaC_ok x hv h).2
 obtain ⟨p0, p1⟩ := h.one _ (head_mem h.ne)
 obtain ⟨q0, q1⟩ := h.one _ (last_mem h.ne)
 unfold chI spanI
 cases e1 : mainI x.l x.rs (c.headD 0) with
 | none => exact ⟨h, hf, ha, range0, fun e => by cases e⟩
 | some g =>
   cases e2 : mainI x.l x.rs (c.getLast?.getD 0) with
   | none => exact ⟨h, hf, ha, range0, fun e => by cases e⟩
   | some z =>
     have n1 := endA_nonneg x hv p0 p1 g
     have n2 := endA_nonneg x hv q0 q1 z
     have v1 := valid_iff.1 (mainI_valid x hv p0 p1 e1).2
     have v2 := valid_iff.1 (mainI_valid x hv q0 q1 e2).2
     by_cases hlt : g.lx + (endA x (c.headD 0) g).1 < z.hx - (endA x (c.getLast?.getD 0) z).2
     ·simp only [if_pos hlt]
      refine ⟨h, hf, ha, ⟨⟨?_, ?_⟩, ?_, ?_⟩, fun _ => ⟨hlt, g, z, e1, e2, ?_, ?_⟩⟩ <;> simp only [chOf] <;> omega
     ·simp only [if_neg hlt]
      exact ⟨h, hf, ha, range0, fun e => by cases e⟩
theorem chsI_ok (x : Dt) (hv : DtV x) : ∀ c ∈ chsI x, ChOk x c := by
 intro c hc
 obtain ⟨b, hb, rfl⟩ := List.mem_map.1 hc
 exact chI_ok x hv hb
theorem chsI_len (x : Dt) : (chsI x).length ≤ (countS x.rs).toNat := by
 unfold chsI chnI
 rw [List.length_map]
 exact chnTo_le _ _
theorem supI_len (x : Dt) (z : Dm) : (supI x z).length ≤ (countS x.rs).toNat := Nat.le_trans (List.length_filter_le _ _) (chsI_len x)
theorem supI_ok (x : Dt) (hv : DtV x) (z : Dm) : ∀ c ∈ supI x z, ChOk x c ∧ c.is = true ∧ c.lo < c.hi ∧ ∀ j ∈ c.bars, ∃ g, mainI x.l x.rs j = some g ∧ zoneB z g = true := by
 intro c hc
 obtain ⟨h1, h2⟩ := List.mem_filter.1 hc
 unfold supC at h2
 simp only [Bool.and_eq_true, Bool.not_eq_true', List.any_eq_false] at h2
 have ho := chsI_ok x hv c h1
 refine ⟨ho, h2.1, (ho.span h2.1).1, fun j hj => ?_⟩
 have h3 := h2.2 j hj
 unfold outB at h3
 cases e : mainI x.l x.rs j with
 | none => rw [e] at h3; exact absurd rfl h3
 | some g => rw [e] at h3; exact ⟨g, rfl, by simpa using h3⟩
theorem valF_range {l : List Ch} (h : ∀ c ∈ l, 0 ≤ c.area ∧ c.area ≤ 130000) (p : Int) : ∀ a, a ≤ valF l a p ∧ valF l a p ≤ a + 130000 * l.length := by
 induction l with
 | nil => intro a; exact ⟨Int.le_refl _, by show a ≤ a + 130000 * ((0 : Nat) : Int); omega⟩
 | cons c l ih =>
   intro a
   have hc := h c List.mem_cons_self
   have := ih (fun d hd => h d (List.mem_cons_of_mem _ hd)) (if c.lo ≤ p ∧ p < c.hi then a + c.area else a)
   have e : valF (c :: l) a p = valF l (if c.lo ≤ p ∧ p < c.hi then a + c.area else a) p := rfl
   rw [e, List.length_cons]
   split at this <;> split <;> first | contradiction | (constructor <;> push_cast <;> omega)
theorem value_range {l : List Ch} (h : ∀ c ∈ l, 0 ≤ c.area ∧ c.area ≤ 130000) (p : Int) : 0 ≤ valueI l p ∧ valueI l p ≤ 130000 * l.length := by
 have := valF_range h p 0
 exact ⟨this.1, by have := this.2; show valF l 0 p ≤ _; omega⟩
theorem placesI_len (l : List Ch) : (placesI l).length = 2 * l.length := by
 induction l with
 | nil => rfl
 | cons c l ih =>
   have e : placesI (c :: l) = [c.lo, c.hi] ++ placesI l := rfl
   rw [e, List.length_append, ih, List.length_cons]
   simp; omega
theorem cutsL_length (zs : List Int) : (cutsL zs).length ≤ zs.length := by
 unfold cutsL Lib.compact Lib.compactUpTo
 rw [List.length_map]
 refine Nat.le_trans (List.length_filter_le _ _) ?_
 rw [List.length_range]
 unfold sorted
 rw [List.length_mergeSort]
 exact Nat.le_refl _
theorem stepsF_asc {f : Int → Int} {ps : List Int} (hs : ps.Pairwise (· < ·)) : ∀ last, (stepsF f ps last).Pairwise (fun a b => a.1 < b.1) := by
 induction ps with
 | nil => intro last; exact List.Pairwise.nil
 | cons p ps ih =>
   intro last
   have h1 := List.pairwise_cons.1 hs
   unfold stepsF
   split
   ·exact List.pairwise_cons.2 ⟨fun b hb => h1.1 _ (stepsF_mem hb).1, ih h1.2 _⟩
   ·exact ih h1.2 _
theorem supS_ok {x : Dt} {l : List Ch} (h : ∀ c ∈ l, ChOk x c) (hn : l.length ≤ 100) : StOk (supS l) := by
 have har : ∀ c ∈ l, 0 ≤ c.area ∧ c.area ≤ 130000 := fun c hc => by have := (h c hc).area; omega
 obtain ⟨hm, hs⟩ := cutsL_spec (placesI l)
 have hlen : (cutsL (placesI l)).length ≤ 2 * l.length := by rw [← placesI_len]; exact cutsL_length _
 have hmem : ∀ s ∈ supS l, (-1048576 ≤ s.1 ∧ s.1 ≤ 1048576) ∧ 0 ≤ s.2 ∧ s.2 ≤ 1099511627776 := by
  intro s hs2
  obtain ⟨h1, h2⟩ := stepsF_mem hs2
  obtain ⟨c, hc, h3⟩ := List.mem_flatMap.1 ((hm _).1 h1)
  have hr := (h c hc).range
  have hv := value_range har s.1
  refine ⟨?_, by rw [h2]; exact hv.1, by rw [h2]; omega⟩
  simp only [List.mem_cons, List.not_mem_nil, or_false] at h3
  rcases h3 with e | e <;> rw [e] <;> omega
 refine ⟨Nat.le_trans (stepsF_len _ _ _) (by omega), fun i hi => hmem _ (List.getElem_mem hi), fun i hi => ?_⟩
 have hp : (supS l).Pairwise (fun a b => a.1 < b.1) := stepsF_asc hs _
 exact List.pairwise_iff_getElem.1 hp i (i + 1) (by omega) hi (by omega)
def atC (p : Int) (c : Ch) : Bool := !(decide (p < c.lo) || decide (c.hi ≤ p))
def supAt (x : Dt) (z : Dm) (p : Int) : List Ch := (supI x z).filter (atC p)
def overB (x : Dt) (p j : Int) : Bool := match mainI x.l x.rs j with | some g => decide (g.lx ≤ p) && decide (p ≤ g.hx) | none => false
def barsF (x : Dt) (p : Int) (l : List Ch) : List Int := l.flatMap fun c => c.bars.filter (overB x p)
theorem atC_iff {p : Int} {c : Ch} : atC p c = true ↔ c.lo ≤ p ∧ p < c.hi := by
 unfold atC
 simp only [Bool.not_eq_true', Bool.or_eq_false_iff, decide_eq_false_iff_not]
 omega
theorem valF_filter (l : List Ch) (p : Int) : ∀ a, valF (l.filter (atC p)) a p = valF l a p := by
 induction l with
 | nil => intro a; rfl
 | cons c l ih =>
   intro a
   have e : valF (c :: l) a p = valF l (if c.lo ≤ p ∧ p < c.hi then a + c.area else a) p := rfl
   rw [e, List.filter_cons]
   split
   ·rename_i h
    have e2 : valF (c :: l.filter (atC p)) a p = valF (l.filter (atC p)) (if c.lo ≤ p ∧ p < c.hi then a + c.area else a) p := rfl
    rw [e2]
    exact ih _
   ·rename_i h
    rw [if_neg (fun q => h (atC_iff.2 q))]
    exact ih _
theorem supAt_value (x : Dt) (z : Dm) (p : Int) : valueI (supAt x z p) p = valueI (supI x z) p := valF_filter _ _ 0
theorem valF_pos {l : List Ch} (h : ∀ c ∈ l, 1 ≤ c.area ∧ c.area ≤ 130000) {p : Int} (hc : ∃ c ∈ l, atC p c = true) : ∀ a, 0 ≤ a → 0 < valF l a p := by
 induction l with
 | nil => obtain ⟨c, h1, -⟩ := hc; cases h1
 | cons c l ih =>
   intro a ha
   have e : valF (c :: l) a p = valF l (if c.lo ≤ p ∧ p < c.hi then a + c.area else a) p := rfl
   rw [e]
   have hc1 := h c List.mem_cons_self
   by_cases h1 : c.lo ≤ p ∧ p < c.hi
   ·rw [if_pos h1]
    have := (valF_range (fun d hd => by have := h d (List.mem_cons_of_mem _ hd); omega) p (a + c.area) : _ ≤ valF l (a + c.area) p ∧ _).1
    omega
   ·rw [if_neg h1]
    refine ih (fun d hd => h d (List.mem_cons_of_mem _ hd)) ?_ a ha
    obtain ⟨d, h2, h3⟩ := hc
    rcases List.mem_cons.1 h2 with rfl | h2
    ·exact absurd (atC_iff.1 h3) h1
    ·exact ⟨d, h2, h3⟩
theorem have_bars (x : Dt) (hv : DtV x) (z : Dm) (p : Int) : 0 < valueI (supI x z) p ↔ barsF x p (supAt x z p) ≠ [] := by
 constructor
 ·intro h e
  have hn : ∀ c ∈ supI x z, atC p c = false := by
   intro c hc
   cases ec : atC p c with
   | false => rfl
   | true =>
     exfalso
     obtain ⟨ho, his, -, hm⟩ := supI_ok x hv z c hc
     obtain ⟨h1, h2⟩ := atC_iff.1 ec
     obtain ⟨-, a, b, ma, mb, l1, l2⟩ := ho.span his
     obtain ⟨i, hi⟩ := ho.fuel
     have hhd : c.bars.headD 0 = i := by
      obtain ⟨t, ht⟩ := chainF_ne (lp := x.lp) 2097154 i
      rw [hi, ht]; rfl
     rw [hhd] at ma
     rw [hi] at mb
     obtain ⟨j, hj, g, mj, q1, q2⟩ := chainF_cover (lpOk_of x hv) 2097154 i a b p ma mb (by omega) (by omega)
     have hmem : j ∈ barsF x p (supAt x z p) := List.mem_flatMap.2 ⟨c, List.mem_filter.2 ⟨hc, ec⟩, List.mem_filter.2 ⟨by rw [hi]; exact hj, by unfold overB; rw [mj]; simp [q1, q2]⟩⟩
     rw [e] at hmem
     cases hmem
  have h0 : valueI (supI x z) p = 0 := by
   have : valueI ((supI x z).filter (atC p)) p = valueI (supI x z) p := valF_filter _ _ 0
   rw [← this, List.filter_eq_nil_iff.2 (fun c hc => by rw [hn c hc]; decide)]
   rfl
  omega
 ·intro h
  obtain ⟨j, hj⟩ := List.exists_mem_of_ne_nil _ h
  obtain ⟨c, hc, -⟩ := List.mem_flatMap.1 hj
  obtain ⟨h1, h2⟩ := List.mem_filter.1 hc
  exact valF_pos (fun d hd => (supI_ok x hv z d hd).1.area) ⟨c, h1, h2⟩ 0 (Int.le_refl _)
theorem bars_over (x : Dt) (hv : DtV x) (z : Dm) (p : Int) : ∀ j ∈ barsF x p (supAt x z p), (0 ≤ j ∧ j < countS x.rs) ∧ ∃ g, mainI x.l x.rs j = some g ∧ zoneB z g = true ∧ g.lx ≤ p ∧ p ≤ g.hx := by
 intro j hj
 obtain ⟨c, hc, hj2⟩ := List.mem_flatMap.1 hj
 obtain ⟨h1, h2⟩ := List.mem_filter.1 hc
 obtain ⟨h3, h4⟩ := List.mem_filter.1 hj2
 obtain ⟨ho, -, -, hm⟩ := supI_ok x hv z c h1
 obtain ⟨g, e, hz⟩ := hm j h3
 unfold overB at h4
 rw [e] at h4
 simp only [Bool.and_eq_true, decide_eq_true_eq] at h4
 exact ⟨ho.chn.one j h3, g, e, hz, h4⟩
end Go.Proofs.YtkjljneehgmmaaaGreat

