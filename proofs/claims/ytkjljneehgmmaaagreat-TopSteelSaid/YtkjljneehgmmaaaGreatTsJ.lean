/- TopSteel: lap.mains: the main legs of all laid bars. -/
import Derived.Test.YtkjljneehgmmaaaGreatAaK7
import Derived.Test.YtkjljneehgmmaaaGreatCovK1
namespace Go.Proofs.YtkjljneehgmmaaaGreat
set_option linter.unusedVariables false
set_option linter.unusedSimpArgs false
open Go.RowKit
set_option maxRecDepth 20000

def rnC (r : Rn) : Array Value := #[.string r.mark, .int .i64 r.tx, .int .i64 r.ty, .int .i64 r.ax, .int .i64 r.ay, .int .i64 r.az, .int .i64 r.sx, .int .i64 r.sy, .int .i64 r.sz, .int .i64 r.count]
def brC (b : Br) : Array Value := #[.string b.mark, .int .i64 b.size, .int .i64 b.count, .int .i64 b.code, b.dv]
theorem RnAt.below' {w W : World} {b off : Nat} {r : Rn} (h : RnAt w b off r) (hb : Below w.heap.size w W) : RnAt W b off r := by
 obtain ⟨y, rfl⟩ := ext_of hb
 exact h.ext y
theorem BrAt.below' {w W : World} {b off : Nat} {r : Br} (h : BrAt w b off r) (hb : Below w.heap.size w W) : BrAt W b off r := by
 obtain ⟨y, rfl⟩ := ext_of hb
 exact h.ext y
theorem bar_at {l : List Br} {m : ByteArray} (h : 0 ≤ findI l m) : ∃ (k : Nat) (hk : k < l.length), findI l m = k ∧ barOf l m = l[k] ∧ (l[k]).mark = m := by
 rcases findI_cases l m with ⟨e, -⟩ | ⟨k, hk, e, em, -⟩
 ·omega
 ·exact ⟨k, hk, e, by unfold barOf; rw [e, Int.toNat_natCast, ← List.getElem_eq_getD (h := hk)], sEq_iff.1 em⟩
theorem count_step {l : List Br} {rs : List Rn} (h : laidB l rs = true) {k : Nat} (hk : k < rs.length) : countS (rs.take (k + 1)) = countS (rs.take k) + (rs[k]).count ∧ 0 ≤ countS (rs.take k) ∧ countS (rs.take k) ≤ 2000 := by
 have h1 := count_le h k
 exact ⟨count_take hk, h1.1, by omega⟩
theorem origin_mem (b : Br) : (⟨0, 0, 0⟩ : Pt) ∈ pathL b := by
 unfold pathL ptsK
 exact List.mem_map.2 ⟨0, by simp, by simp [atK]⟩
theorem img_origin (tx ty : Int) : imgP tx ty ⟨0, 0, 0⟩ = ⟨0, 0, 0⟩ := by unfold imgP; simp
theorem at_near {b : Br} {r : Rn} {j : Int} (h : ∀ p ∈ laidL b r j, NearP p 1048576) : NearP ⟨r.ax + j * r.sx, r.ay + j * r.sy, r.az + j * r.sz⟩ 1048576 := by
 have := h _ (List.mem_map.2 ⟨_, origin_mem b, rfl⟩)
 unfold laidP at this
 rw [img_origin] at this
 simpa using this
theorem laid_plc (b : Br) (r : Rn) (j : Int) : (pathL b).map (plcP r.tx r.ty ⟨r.ax + j * r.sx, r.ay + j * r.sy, r.az + j * r.sz⟩) = laidL b r j := by
 unfold laidL
 exact List.map_congr_left fun p _ => plc_laid r j p
structure MnK (w : World) (x : Dt) (r : Rn) (b : Br) (g5 g8 : Nat) (vp : Value) (m : Nat) (v : Value) (W : World) : Prop where
 j : MnJ w x m v W
 run : Blk W g5 (rnC r) 118
 bar : Blk W g8 (brC b) 81
 path : W.ownsRow w.heap.size 38 3 vp (pathL b).length (ptCells (pathL b))
theorem MnK.grows {w : World} {x : Dt} {r : Rn} {b : Br} {g5 g8 m : Nat} {vp v : Value} {W W' : World} (h : MnK w x r b g5 g8 vp m v W) (hb : Below W.heap.size W W') : MnK w x r b g5 g8 vp m v W' := ⟨h.j.grows hb, h.run.below hb, h.bar.below hb, own_grows h.path hb⟩
theorem own_heap {w w' : World} {base s n : Nat} {e : TypeId} {v : Value} {xs : List Value} (h : w.ownsRow base e s v n xs) (hb : ∀ b, v.ownBlock = some b → w'.heap[b]? = w.heap[b]?) : w'.ownsRow base e s v n xs := by
 rcases h with ⟨h1, h2⟩
 refine ⟨h1, ?_⟩
 rcases h2 with h2 | ⟨g, cap, cur, rfl, g1, g2, g3⟩
 ·exact .inl h2
 ·exact .inr ⟨g, cap, cur, rfl, g1, (hb g rfl).trans g2, g3⟩
theorem own_apart {w : World} {b1 b2 s1 s2 n1 n2 : Nat} {e1 e2 : TypeId} {v1 v2 : Value} {x1 x2 : List Value} (h1 : w.ownsRow b1 e1 s1 v1 n1 x1) (h2 : w.ownsRow b2 e2 s2 v2 n2 x2) (hne : e1 ≠ e2) : ∀ b, v1.ownBlock = some b → some b ≠ v2.ownBlock := by
 intro b q1 q2
 rcases h1.2 with ⟨rfl, -⟩ | ⟨g, cap, cur, rfl, -, a1, -⟩
 ·simp [Value.ownBlock] at q1
 rcases h2.2 with ⟨rfl, -⟩ | ⟨g', cap', cur', rfl, -, a2, -⟩
 ·simp [Value.ownBlock] at q2
 simp only [Value.ownBlock, Option.some.injEq] at q1 q2
 subst q1 q2
 rw [a1] at a2
 cases a2
 exact hne rfl
theorem MnK.app {w : World} {x : Dt} {r : Rn} {b : Br} {g5 g8 m : Nat} {vp v : Value} {W W' : World} (h : MnK w x r b g5 g8 vp m v W) {v' : Value} {M : Mn} (hM : M = mnI x.l x.rs m) (hown : W'.ownsRow w.heap.size 228 9 v' (m + 1) (mnCells (mainsTo x.l x.rs m) ++ mn1 M)) (hg : W.grownBy W' v.ownBlock) : MnK w x r b g5 g8 vp (m + 1) v' W' := by
 subst hM
 exact ⟨h.j.app hown hg, h.run.grown hg (h.run.ne_row h.j.row (by decide)), h.bar.grown hg (h.bar.ne_row h.j.row (by decide)), own_heap h.path fun b hb => hg.block b (h.path.lt b hb).2 (own_apart h.path h.j.row (by decide) b hb)⟩
structure MnS (w : World) (x : Dt) (r : Rn) (b : Br) (g5 g8 : Nat) (vp : Value) (m : Nat) (v vt : Value) (T : List Pt) (gm : Nat) (cs : Array Value) (W : World) : Prop where
 k : MnK w x r b g5 g8 vp m v W
 pts : W.ownsRow w.heap.size 38 3 vt T.length (ptCells T)
 blk : Blk W gm cs 228
 ge : w.heap.size ≤ gm
 ne : v.ownBlock ≠ some gm
theorem MnS.grows {w : World} {x : Dt} {r : Rn} {b : Br} {g5 g8 m gm : Nat} {vp v vt : Value} {T : List Pt} {cs : Array Value} {W W' : World} (h : MnS w x r b g5 g8 vp m v vt T gm cs W) (hb : Below W.heap.size W W') : MnS w x r b g5 g8 vp m v vt T gm cs W' := ⟨h.k.grows hb, own_grows h.pts hb, h.blk.below hb, h.ge, h.ne⟩
theorem tyNe {w : World} {a b : Nat} {x y : Array Value} {s t : TypeId} (h1 : Blk w a x s) (h2 : Blk w b y t) (hne : s ≠ t) : a ≠ b := fun e => by
 subst e
 unfold Blk at h1 h2
 rw [h1] at h2
 cases h2
 exact hne rfl
theorem MnS.set {w : World} {x : Dt} {r : Rn} {b : Br} {g5 g8 m gm : Nat} {vp v vt : Value} {T : List Pt} {cs : Array Value} {W : World} (h : MnS w x r b g5 g8 vp m v vt T gm cs W) (i : Nat) (u : Value) : MnS w x r b g5 g8 vp m v vt T gm (cs.setIfInBounds i u) (W.setCell ⟨gm, i, none⟩ u) := by
 have ho : ∀ {base s n : Nat} {e : TypeId} {z : Value} {ys : List Value}, z.ownBlock ≠ some gm → W.ownsRow base e s z n ys → (W.setCell ⟨gm, i, none⟩ u).ownsRow base e s z n ys := fun {_ _ _ _ _ _} hz hw => own_heap hw fun c hc => Below.heap_setCell _ _ _ _ (fun e => hz (by rw [hc, e]))
 have ht : ∀ {base s n : Nat} {z : Value} {ys : List Value}, W.ownsRow base 38 s z n ys → z.ownBlock ≠ some gm := fun {_ _ _ _ _} hw e => (h.blk.ne_row hw (by decide)) e.symm
 exact ⟨⟨⟨h.k.j.below.setCell h.ge _, h.k.j.dt.other (tyNe h.k.j.dt h.blk (by decide)) _, ho h.ne h.k.j.row⟩, h.k.run.other (tyNe h.k.run h.blk (by decide)) _, h.k.bar.other (tyNe h.k.bar h.blk (by decide)) _, ho (ht h.k.path) h.k.path⟩, ho (ht h.pts) h.pts, h.blk.set i u, h.ge, h.ne⟩
theorem legsP_one {T : List Pt} (h : 1 ≤ T.length) : legsP (T.take 1) = [] := by
 cases T with
 | nil => simp at h
 | cons a t => rfl
theorem find_take {T : List Pt} {q : Nat} {g : Bx} (h : (legsP (T.take q)).find? mainB = some g) : (legsP T).find? mainB = some g := by
 have key : ∀ d q, (legsP (T.take q)).find? mainB = some g → q + d = T.length → (legsP T).find? mainB = some g := by
  intro d
  induction d with
  | zero => intro q h hq; rw [List.take_of_length_le (by omega)] at h; exact h
  | succ d ih =>
    intro q h hq
    refine ih (q + 1) ?_ (by omega)
    rcases Nat.eq_zero_or_pos q with rfl | hp
    ·simp [legsP] at h
    ·rw [legsP_take hp (by omega), List.find?_append, h]; rfl
 by_cases hq : q ≤ T.length
 ·exact key (T.length - q) q h (by omega)
 ·rw [List.take_of_length_le (by omega)] at h; exact h
set_option maxRecDepth 100000 in
set_option maxHeartbeats 16000000 in
theorem mains_c (x : Dt) (hv : laidB x.l x.rs = true) (w : World) (h : DtAt w x) : Calls Tryz.prog 126 #[(.agg #[.string x.q.name, x.q.u, x.q.t, .int .i64 x.q.cover, .int .i64 x.q.agg, .int .i64 x.q.poker, x.lv, x.rv, x.pv, x.dv, .int .i64 x.ru.num, .int .i64 x.ru.den, .int .i64 x.ru.pn, .int .i64 x.ru.pd, .int .i64 x.ru.bn, .int .i64 x.ru.bd, .int .i64 x.ru.ln, .int .i64 x.ru.ld, .int .i64 x.ru.least])] w (RetOwn w 228 9 (countS x.rs).toNat (mnCells (mainsTo x.l x.rs (countS x.rs).toNat))) := by
 obtain ⟨la, lc, elv, hl2, hl3, hl4⟩ := h.l.shape
 obtain ⟨ra, rc, erv, hr2, hr3, hr4⟩ := h.rs.shape
 have HBR := hd0 (show Bars w (.slice la x.l.length lc) x.l from elv ▸ h.l)
 have HR4 := hd0 hr4
 have HL4 := hd0 hl4
 have HV := hd0 hv
 have HELV := hd0 elv
 have HERV := hd0 erv
 have HS := hd0 (laidB_iff.1 hv).1
 clear h elv erv hv hr4 hl4
 go_enter Tryz.func126, Tryz.ntmps126
 go_upto_region 2 with fail
 refine world_mask (fun W => MnJ w x 0 (.slice none 0 0) W) _ ⟨gro, Blk.new _ _ _, World.ownsRow_nil _ _ _ _⟩ ?_
 intro W1 J
 have c7 : W1.cell? ⟨w.heap.size, 7, none⟩ = some (.slice ra x.rs.length rc) := (J.dt.cell 7).trans (congrArg some HERV.out)
 go_wp2_with fail
 go_loopw [21, 3] (fun i v wr => ∃ k : Nat, k ≤ x.rs.length ∧ i = .int .i64 k ∧ MnJ w x (countS (x.rs.take k)).toNat v wr) (fun i _ _ => x.rs.length - (intOf i).toNat)
 case atStart => exact ⟨0, Nat.zero_le _, rfl, J⟩
 case round =>
  clear J c7
  obtain ⟨W2, rfl⟩ : ∃ W : World, W = wr := ⟨_, rfl⟩
  obtain ⟨k, hk, rfl, J⟩ := hrel
  by_cases hlt : k < x.rs.length
  ·have q1 : (0 : Int) ≤ (k : Int) := by omega
   have q2 : (k : Int) < (x.rs.length : Int) := by omega
   have hrun := (laidB_iff.1 HV.out).2.2.1 _ (List.getElem_mem hlt)
   obtain ⟨hcs, hc0, hc1⟩ := count_step HV.out hlt
   obtain ⟨hfi, hturn, hct1, hct2, hnear⟩ := run_facts hrun
   have HPA := hd0 (fun j (h0 : 0 ≤ j) hj => path_at HV.out hlt (j := j) h0 hj)
   have HLN := hd0 (fun j (h0 : 0 ≤ j) hj => laidL_near hrun (j := j) h0 hj)
   obtain ⟨-, b5, o5, era, hra⟩ := HR4.out k hlt
   obtain ⟨kf, hkf, efi, ebar, emk⟩ := bar_at hfi
   obtain ⟨hbok, b8, o8, ela, hba⟩ := HL4.out kf hkf
   have hshape := schedB_shape HS.out _ (List.getElem_mem hkf)
   subst era ela
   obtain ⟨r0, r1, r2, r3, r4, r5, r6, r7, r8, r9⟩ := hra.below' J.below
   obtain ⟨d0, d1, d2, d3, d4⟩ := hba.below' J.below
   have c6 : W2.cell? ⟨w.heap.size, 6, none⟩ = some (.slice (some ⟨b8, o8, none⟩) x.l.length lc) := (J.dt.cell 6).trans (congrArg some HELV.out)
   rw [ebar] at HLN
   have HEB := hd0 ebar
   generalize hrk : x.rs[k] = r at *
   generalize hbk : x.l[kf] = bar at *
   obtain ⟨ad, cd, ed, -, -, -⟩ := hbok.dims
   obtain ⟨bm, bs, bc, bcode, bdims, bdv⟩ := bar
   simp only at d0 d1 d2 d3 d4 ed emk
   have HMK := hd0 emk
   clear emk
   subst ed
   have HSF := hd0 (fun w hl => schedFind_c x.l (.slice (some ⟨b8, o8, none⟩) x.l.length lc) r.mark HS.out hfi w hl)
   rw [efi] at HSF
   have HPT := hd0 (fun w hb => path_ok (⟨bm, bs, bc, bcode, bdims, .slice ad bdims.length cd⟩ : Br) hshape w hb)
   have HBK := hd0 hbok
   have HJ := hd0 J
   have HJB := hd0 J.below
   have p1 : (0 : Int) ≤ (kf : Int) := by omega
   have p2 : (kf : Int) < (x.l.length : Int) := by omega
   obtain ⟨av, cv, rfl, -, hv2, -⟩ := own_shape J.row
   have hv3 : cv ≤ 9223372036854775807 := hv2
   clear J hra hba hbok efi ebar hv2
   go_upto_region 6 with (go_at_call 182; refine (HSF.out _ (HBR.out.below (grob HJB.out))).mono ?_; rintro e w' ⟨rfl, x1, rfl⟩)
   go_upto_region 10 with (go_at_call 183; refine (HPT.out _ (HBK.out.below (grob HJB.out))).mono ?_; rintro e w' ⟨vp, rfl, hown, x2, rfl⟩; obtain ⟨ap, cp, rfl, -, -, -⟩ := own_shape hown; have HVP := hd0 (own_mono (base' := w.heap.size) hown (by have := HJB.out.size; simp only [World.size_alloc, size_ext]; omega)); clear hown)
   go_upto_region 12 with fail
   refine world_mask (fun W => MnK w x r (⟨bm, bs, bc, bcode, bdims, .slice ad bdims.length cd⟩ : Br) W2.heap.size (W2.heap.size + 1 + x1.heap.size) (.slice ap (pathL (⟨bm, bs, bc, bcode, bdims, .slice ad bdims.length cd⟩ : Br)).length cp) (countS (x.rs.take k)).toNat (.slice av (countS (x.rs.take k)).toNat cv) W) _ ⟨HJ.out.grows gro, Blk.ext (Blk.alloc (Blk.ext (Blk.new' rfl _ _) _) _) _, Blk.ext (Blk.new' (by simp only [World.size_alloc, size_ext]) _ _) _, HVP.out⟩ ?_
   clear r0 r1 r2 r3 r4 r5 r6 r7 r8 r9 d0 d1 d2 d3 d4 c6 HVP
   generalize W2.heap.size + 1 + x1.heap.size = g8
   generalize W2.heap.size = g5
   intro W3 K
   have n9 : W3.cell? ⟨g5, 9, none⟩ = some (.int .i64 r.count) := K.run.cell 9
   go_wp2_with fail
   go_loopw [49, 3] (fun i v wr => ∃ j : Nat, (j : Int) ≤ r.count ∧ i = .int .i64 j ∧ MnK w x r (⟨bm, bs, bc, bcode, bdims, .slice ad bdims.length cd⟩ : Br) g5 g8 (.slice ap (pathL (⟨bm, bs, bc, bcode, bdims, .slice ad bdims.length cd⟩ : Br)).length cp) ((countS (x.rs.take k)).toNat + j) v wr) (fun i _ _ => r.count.toNat - (intOf i).toNat)
   case atStart => exact ⟨0, by omega, rfl, K⟩
   case round =>
    clear K n9
    obtain ⟨W4, rfl⟩ : ∃ W : World, W = wr := ⟨_, rfl⟩
    obtain ⟨j, hj, rfl, K⟩ := hrel
    obtain ⟨av2, cv2, rfl, -, hv4, -⟩ := own_shape K.j.row
    have hv5 : cv2 ≤ 9223372036854775807 := hv4
    by_cases hlt2 : (j : Int) < r.count
    ·have q3 : (0 : Int) ≤ (j : Int) := by omega
     have n1 : W4.cell? ⟨g5, 1, none⟩ = some (.int .i64 r.tx) := K.run.cell 1
     have n2 : W4.cell? ⟨g5, 2, none⟩ = some (.int .i64 r.ty) := K.run.cell 2
     have n3 : W4.cell? ⟨g5, 3, none⟩ = some (.int .i64 r.ax) := K.run.cell 3
     have n4 : W4.cell? ⟨g5, 4, none⟩ = some (.int .i64 r.ay) := K.run.cell 4
     have n5 : W4.cell? ⟨g5, 5, none⟩ = some (.int .i64 r.az) := K.run.cell 5
     have n6 : W4.cell? ⟨g5, 6, none⟩ = some (.int .i64 r.sx) := K.run.cell 6
     have n7 : W4.cell? ⟨g5, 7, none⟩ = some (.int .i64 r.sy) := K.run.cell 7
     have n8 : W4.cell? ⟨g5, 8, none⟩ = some (.int .i64 r.sz) := K.run.cell 8
     have n9 : W4.cell? ⟨g5, 9, none⟩ = some (.int .i64 r.count) := K.run.cell 9
     have m0 : W4.cell? ⟨g8, 0, none⟩ = some (.string bm) := K.bar.cell 0
     have m1 : W4.cell? ⟨g8, 1, none⟩ = some (.int .i64 bs) := K.bar.cell 1
     have hnr := HLN.out j q3 hlt2
     have hC := at_near hnr
     obtain ⟨⟨z1, z2⟩, ⟨z3, z4⟩, z5, z6⟩ := hC
     obtain ⟨⟨y1, y2⟩, ⟨y3, y4⟩, y5, y6⟩ := hnear
     simp only at z1 z2 z3 z4 z5 z6 y1 y2 y3 y4 y5 y6
     have w1 : wrap64 ((j : Int) * r.sx) = (j : Int) * r.sx := IntWalk.wrap64_in _ (by omega)
     have w2 : wrap64 ((j : Int) * r.sy) = (j : Int) * r.sy := IntWalk.wrap64_in _ (by omega)
     have w3 : wrap64 ((j : Int) * r.sz) = (j : Int) * r.sz := IntWalk.wrap64_in _ (by omega)
     have w4 : wrap64 (r.ax + (j : Int) * r.sx) = r.ax + (j : Int) * r.sx := IntWalk.wrap64_in _ (by omega)
     have w5 : wrap64 (r.ay + (j : Int) * r.sy) = r.ay + (j : Int) * r.sy := IntWalk.wrap64_in _ (by omega)
     have w6 : wrap64 (r.az + (j : Int) * r.sz) = r.az + (j : Int) * r.sz := IntWalk.wrap64_in _ (by omega)
     have HFP := hd0 (fun w hl => framePathAt_c r.tx r.ty ⟨r.ax + (j : Int) * r.sx, r.ay + (j : Int) * r.sy, r.az + (j : Int) * r.sz⟩ (pathL (⟨bm, bs, bc, bcode, bdims, .slice ad bdims.length cd⟩ : Br)) (.slice ap (pathL (⟨bm, bs, bc, bcode, bdims, .slice ad bdims.length cd⟩ : Br)).length cp) hturn (at_near hnr) (path_near hshape) (by have := (path_len (⟨bm, bs, bc, bcode, bdims, .slice ad bdims.length cd⟩ : Br)).2; omega) w hl)
     rw [laid_plc] at HFP
     have HT := hd0 (show laidL (⟨bm, bs, bc, bcode, bdims, .slice ad bdims.length cd⟩ : Br) r j = pathI x.l x.rs (countS (x.rs.take k) + j) by unfold pathI; rw [HPA.out j q3 hlt2]; simp only; rw [HEB.out])
     have hTl : (laidL (⟨bm, bs, bc, bcode, bdims, .slice ad bdims.length cd⟩ : Br) r j).length ≤ 7 := by unfold laidL; rw [List.length_map]; exact (path_len _).2
     have hT1 : 1 ≤ (laidL (⟨bm, bs, bc, bcode, bdims, .slice ad bdims.length cd⟩ : Br) r j).length := by unfold laidL; rw [List.length_map]; exact (path_len _).1
     have HNR := hd0 hnr
     have HK := hd0 K
     clear K hnr z1 z2 z3 z4 z5 z6 hv4
     generalize laidL (⟨bm, bs, bc, bcode, bdims, .slice ad bdims.length cd⟩ : Br) r j = T at *
     go_upto_region 19 with (go_at_call 184; refine (HFP.out _ ((Pts.of_own HK.out.path).below gro)).mono ?_; rintro e w' ⟨vt, rfl, hown, x4, rfl⟩; obtain ⟨at', ct, rfl, -, -, -⟩ := own_shape hown; have HVT := hd0 (own_mono (base' := w.heap.size) hown (by have := HK.out.j.below.size; simp only [World.size_alloc, size_ext]; omega)); clear hown)
     go_upto_region 21 with fail
     obtain ⟨gm, hgm⟩ : ∃ g, g = W4.heap.size + 1 + x4.heap.size := ⟨_, rfl⟩
     rw [← hgm]
     refine world_mask (fun W => MnS w x r (⟨bm, bs, bc, bcode, bdims, .slice ad bdims.length cd⟩ : Br) g5 g8 (.slice ap (pathL (⟨bm, bs, bc, bcode, bdims, .slice ad bdims.length cd⟩ : Br)).length cp) ((countS (x.rs.take k)).toNat + j) (.slice av2 ((countS (x.rs.take k)).toNat + j) cv2) (.slice at' T.length ct) T gm (mn1 (mnOf none bs bm)).toArray W) _ ⟨HK.out.grows gro, own_grows HVT.out gro, Blk.new' (by simp only [World.size_alloc, size_ext]; omega) _ _, by have := HK.out.j.below.size; omega, fun e => by have := (HK.out.j.row.lt _ e).2; omega⟩ ?_
     clear n1 n2 n3 n4 n5 n6 n7 n8 n9 m0 m1 w1 w2 w3 w4 w5 w6 HVT hgm
     rintro W5 S
     have HB2 := hd0 (show (countS (x.rs.take k)).toNat ≤ 2000 ∧ j ≤ 1000 by omega)
     have HMN := hd0 (fun o (ho : (legsP T).find? mainB = o) => show mnOf o bs bm = mnI x.l x.rs (((countS (x.rs.take k)).toNat + j : Nat) : Int) by
      have e1 : (((countS (x.rs.take k)).toNat + j : Nat) : Int) = countS (x.rs.take k) + j := by omega
      have e2 : markI x.rs (countS (x.rs.take k) + j) = r.mark := by unfold markI; rw [HPA.out j q3 hlt2]
      unfold mnI mainI legsI sizeI
      rw [e1, ← HT.out, ho, e2, HEB.out, HMK.out])
     go_loopw [15] (fun i wr => ∃ q : Nat, 1 ≤ q ∧ q ≤ T.length ∧ i = .int .i64 q ∧ MnS w x r (⟨bm, bs, bc, bcode, bdims, .slice ad bdims.length cd⟩ : Br) g5 g8 (.slice ap (pathL (⟨bm, bs, bc, bcode, bdims, .slice ad bdims.length cd⟩ : Br)).length cp) ((countS (x.rs.take k)).toNat + j) (.slice av2 ((countS (x.rs.take k)).toNat + j) cv2) (.slice at' T.length ct) T gm (mn1 (mnOf ((legsP (T.take q)).find? mainB) bs bm)).toArray wr) (fun i _ => T.length - (intOf i).toNat)
     case atStart => exact ⟨1, Nat.le_refl _, hT1, rfl, by rw [legsP_one hT1]; exact S⟩
     case round =>
      clear S
      obtain ⟨W6, rfl⟩ : ∃ W : World, W = wr := ⟨_, rfl⟩
      obtain ⟨q, hq1, hq, rfl, S⟩ := hrel
      have p3 : (0 : Int) ≤ (q : Int) := by omega
      cases ho : (legsP (T.take q)).find? mainB with
      | some g =>
        rw [ho] at S
        have K := S.k
        have hM := S.blk
        clear S
        have hMn := HMN.out _ (find_take ho)
        clear ho
        by_cases hq2 : q < T.length
        ·have t0 : W6.cell? ⟨gm, 0, none⟩ = some (.int .i64 g.lx) := hM.cell 0
         have t1 : W6.cell? ⟨gm, 1, none⟩ = some (.int .i64 g.ly) := hM.cell 1
         have t2 : W6.cell? ⟨gm, 2, none⟩ = some (.int .i64 g.lz) := hM.cell 2
         have t3 : W6.cell? ⟨gm, 3, none⟩ = some (.int .i64 g.hx) := hM.cell 3
         have t4 : W6.cell? ⟨gm, 4, none⟩ = some (.int .i64 g.hy) := hM.cell 4
         have t5 : W6.cell? ⟨gm, 5, none⟩ = some (.int .i64 g.hz) := hM.cell 5
         have t6 : W6.cell? ⟨gm, 6, none⟩ = some (.bool true) := hM.cell 6
         have t7 : W6.cell? ⟨gm, 7, none⟩ = some (.int .i64 bs) := hM.cell 7
         have t8 : W6.cell? ⟨gm, 8, none⟩ = some (.string bm) := hM.cell 8
         have HK6 := hd0 K
         have HMM := hd0 hMn
         have hm9 : (countS (x.rs.take k)).toNat + j ≤ 4000 := by have := HB2.out; omega
         clear hM K hMn
         go_wp2_with (at_builtin; refine app_own_b rfl _ _ 138 rfl 228 (.agg #[.int .i64 0, .int .i64 0, .int .i64 0, .int .i64 0, .int .i64 0, .int .i64 0, .bool false, .int .i64 0, .string ⟨#[]⟩]) 9 80 Tryz.underlying138 info_mn rfl (by decide) w.heap.size (.slice av2 ((countS (x.rs.take k)).toNat + j) cv2) ((countS (x.rs.take k)).toNat + j) (mnCells (mainsTo x.l x.rs ((countS (x.rs.take k)).toNat + j))) _ rfl (HK6.out.j.row.alloc _) _ 1 1 (mn1 (mnOf (some g) bs bm)) rfl rfl (cells_new ?_ _ _ _ rfl) (mn1_one _) (by omega) (by decide) ?_ ?_; (first | rfl | simp [size_ext]); (have := HK6.out.j.below.size; simp only [World.size_alloc]; omega); intro v' w1 hown' hgrow; have HO2 := hd0 hown'; obtain ⟨a', c', rfl, -, hc2, -⟩ := own_shape hown'; have hc3 : c' ≤ 9223372036854775807 := hc2; have HGR := hd0 hgrow; clear hown' hgrow hc2)
         go_roundw
         case rel => exact ⟨j + 1, by omega, by go_num, (HK6.out.grows gro).app HMM.out HO2.out HGR.out⟩
         case measure => simp [intOf]; omega
        ·have t0 : W6.cell? ⟨gm, 0, none⟩ = some (.int .i64 g.lx) := hM.cell 0
         have t1 : W6.cell? ⟨gm, 1, none⟩ = some (.int .i64 g.ly) := hM.cell 1
         have t2 : W6.cell? ⟨gm, 2, none⟩ = some (.int .i64 g.lz) := hM.cell 2
         have t3 : W6.cell? ⟨gm, 3, none⟩ = some (.int .i64 g.hx) := hM.cell 3
         have t4 : W6.cell? ⟨gm, 4, none⟩ = some (.int .i64 g.hy) := hM.cell 4
         have t5 : W6.cell? ⟨gm, 5, none⟩ = some (.int .i64 g.hz) := hM.cell 5
         have t6 : W6.cell? ⟨gm, 6, none⟩ = some (.bool true) := hM.cell 6
         have t7 : W6.cell? ⟨gm, 7, none⟩ = some (.int .i64 bs) := hM.cell 7
         have t8 : W6.cell? ⟨gm, 8, none⟩ = some (.string bm) := hM.cell 8
         have HK6 := hd0 K
         have HMM := hd0 hMn
         have hm9 : (countS (x.rs.take k)).toNat + j ≤ 4000 := by have := HB2.out; omega
         clear hM K hMn
         go_wp2_with (at_builtin; refine app_own_b rfl _ _ 138 rfl 228 (.agg #[.int .i64 0, .int .i64 0, .int .i64 0, .int .i64 0, .int .i64 0, .int .i64 0, .bool false, .int .i64 0, .string ⟨#[]⟩]) 9 80 Tryz.underlying138 info_mn rfl (by decide) w.heap.size (.slice av2 ((countS (x.rs.take k)).toNat + j) cv2) ((countS (x.rs.take k)).toNat + j) (mnCells (mainsTo x.l x.rs ((countS (x.rs.take k)).toNat + j))) _ rfl (HK6.out.j.row.alloc _) _ 1 1 (mn1 (mnOf (some g) bs bm)) rfl rfl (cells_new ?_ _ _ _ rfl) (mn1_one _) (by omega) (by decide) ?_ ?_; (first | rfl | simp [size_ext]); (have := HK6.out.j.below.size; simp only [World.size_alloc]; omega); intro v' w1 hown' hgrow; have HO2 := hd0 hown'; obtain ⟨a', c', rfl, -, hc2, -⟩ := own_shape hown'; have hc3 : c' ≤ 9223372036854775807 := hc2; have HGR := hd0 hgrow; clear hown' hgrow hc2)
         go_roundw
         case rel => exact ⟨j + 1, by omega, by go_num, (HK6.out.grows gro).app HMM.out HO2.out HGR.out⟩
         case measure => simp [intOf]; omega
      | none =>
        by_cases hlt3 : q < T.length
        ·obtain ⟨s, rfl⟩ : ∃ s, q = s + 1 := ⟨q - 1, by omega⟩
         rw [ho] at S
         have hs : s < T.length := by omega
         have htk : (legsP (T.take (s + 1 + 1))).find? mainB = (if mainB (legB T[s] T[s + 1]) = true then some (legB T[s] T[s + 1]) else none) := by
          rw [legsP_take (by omega) hlt3, List.find?_append, ho]
          simp only [Nat.add_sub_cancel, List.find?_cons, List.find?_nil, Option.none_or]
          cases mainB (legB T[s] T[s + 1]) <;> rfl
         obtain ⟨_, _, ev, -, -, hp4⟩ := (Pts.of_own S.pts).shape
         cases ev
         obtain ⟨bT, oT, eT, a0, a1, a2⟩ := hp4 s hs
         obtain ⟨_, _, e', b0, b1, b2⟩ := hp4 (s + 1) hlt3
         subst eT
         cases e'
         have t6 : W6.cell? ⟨gm, 6, none⟩ = some (.bool false) := S.blk.cell 6
         have HTK := hd0 htk
         have HSS := hd0 S
         have s1 : (0 : Int) ≤ (s : Int) := by omega
         have s2 : (s : Int) < (T.length : Int) := by omega
         have s3 : (s : Int) + 1 < (T.length : Int) := by omega
         generalize T[s] = P at *
         generalize T[s + 1] = Q at *
         clear htk ho S hp4
         go_upto_region 23 with fail
         go_cut [16, 17] (fun s16 s17 wx => ∃ ga gb, s16 = .pointer (some ⟨ga, 0, none⟩) ∧ s17 = .pointer (some ⟨gb, 0, none⟩) ∧ Blk wx ga #[.int .i64 P.x, .int .i64 P.y, .int .i64 P.z] 38 ∧ Blk wx gb #[.int .i64 Q.x, .int .i64 Q.y, .int .i64 Q.z] 38 ∧ Below W6.heap.size W6 wx)
         case first =>
          go_region
          all_goals
           go_wp2_with fail
           go_meet
           first
            | exact ⟨_, _, rfl, rfl, (Blk.new _ _ _).alloc _, Blk.new' (by simp only [World.size_alloc]) _ _, gro⟩
            | exact ⟨_, _, rfl, rfl, Blk.new' (by simp only [World.size_alloc]) _ _, (Blk.new _ _ _).alloc _, gro⟩
         case rest =>
          clear a0 a1 a2 b0 b1 b2 t6
          obtain ⟨ga, gb, rfl, rfl, ha, hb, hbl⟩ := hcut
          obtain ⟨W7, rfl⟩ : ∃ W : World, W = wc := ⟨_, rfl⟩
          have HS7 := hd0 (HSS.out.grows hbl)
          have a0 : W7.cell? ⟨ga, 0, none⟩ = some (.int .i64 P.x) := ha.cell 0
          have a1 : W7.cell? ⟨ga, 1, none⟩ = some (.int .i64 P.y) := ha.cell 1
          have a2 : W7.cell? ⟨ga, 2, none⟩ = some (.int .i64 P.z) := ha.cell 2
          have b0 : W7.cell? ⟨gb, 0, none⟩ = some (.int .i64 Q.x) := hb.cell 0
          have b1 : W7.cell? ⟨gb, 1, none⟩ = some (.int .i64 Q.y) := hb.cell 1
          have b2 : W7.cell? ⟨gb, 2, none⟩ = some (.int .i64 Q.z) := hb.cell 2
          clear ha hb hbl HSS
          have htk := HTK.out
          cases c1 : (P.x != Q.x)
          ·rw [main_two, c1, Bool.false_and, if_neg Bool.false_ne_true] at htk
           have HT2 := hd0 htk
           clear htk HTK
           go_wp2_with fail
           go_roundw
           case rel => exact ⟨s + 1 + 1, by omega, by omega, by go_num, by rw [HT2.out]; exact HS7.out⟩
           case measure => simp [intOf]; omega
          cases c2 : (P.y == Q.y)
          ·rw [main_two, c1, c2, Bool.false_and, Bool.and_false, if_neg Bool.false_ne_true] at htk
           have HT2 := hd0 htk
           clear htk HTK
           go_wp2_with fail
           go_roundw
           case rel => exact ⟨s + 1 + 1, by omega, by omega, by go_num, by rw [HT2.out]; exact HS7.out⟩
           case measure => simp [intOf]; omega
          cases c3 : (P.z == Q.z)
          ·rw [main_two, c1, c2, c3, Bool.and_false, Bool.and_false, if_neg Bool.false_ne_true] at htk
           have HT2 := hd0 htk
           clear htk HTK
           go_wp2_with fail
           go_roundw
           case rel => exact ⟨s + 1 + 1, by omega, by omega, by go_num, by rw [HT2.out]; exact HS7.out⟩
           case measure => simp [intOf]; omega
          ·have hmn : mainB (legB P Q) = true := by rw [main_two, c1, c2, c3]; rfl
           rw [if_pos hmn, leg_two hmn] at htk
           have HT2 := hd0 htk
           have f0 : W7.frozen? ⟨gm, 0, none⟩ = false := HS7.out.blk.frozen 0
           have f1 : W7.frozen? ⟨gm, 1, none⟩ = false := HS7.out.blk.frozen 1
           have f2 : W7.frozen? ⟨gm, 2, none⟩ = false := HS7.out.blk.frozen 2
           have f3 : W7.frozen? ⟨gm, 3, none⟩ = false := HS7.out.blk.frozen 3
           have f4 : W7.frozen? ⟨gm, 4, none⟩ = false := HS7.out.blk.frozen 4
           have f5 : W7.frozen? ⟨gm, 5, none⟩ = false := HS7.out.blk.frozen 5
           have f6 : W7.frozen? ⟨gm, 6, none⟩ = false := HS7.out.blk.frozen 6
           have t0 : W7.cell? ⟨gm, 0, none⟩ = some (.int .i64 0) := HS7.out.blk.cell 0
           have t1 : W7.cell? ⟨gm, 1, none⟩ = some (.int .i64 0) := HS7.out.blk.cell 1
           have t2 : W7.cell? ⟨gm, 2, none⟩ = some (.int .i64 0) := HS7.out.blk.cell 2
           have t3 : W7.cell? ⟨gm, 3, none⟩ = some (.int .i64 0) := HS7.out.blk.cell 3
           have t4 : W7.cell? ⟨gm, 4, none⟩ = some (.int .i64 0) := HS7.out.blk.cell 4
           have t5 : W7.cell? ⟨gm, 5, none⟩ = some (.int .i64 0) := HS7.out.blk.cell 5
           have t6 : W7.cell? ⟨gm, 6, none⟩ = some (.bool false) := HS7.out.blk.cell 6
           clear htk HTK hmn
           go_wp2_with fail
           go_roundw
           case rel => exact ⟨s + 1 + 1, by omega, by omega, by go_num, by rw [HT2.out]; exact ((((((HS7.out.set 0 (.int .i64 (min P.x Q.x))).set 1 (.int .i64 P.y)).set 2 (.int .i64 P.z)).set 3 (.int .i64 (max P.x Q.x))).set 4 (.int .i64 P.y)).set 5 (.int .i64 P.z)).set 6 (.bool true)⟩
           case measure => simp [intOf]; omega
        ·obtain rfl : q = T.length := by omega
         rw [List.take_length] at ho
         rw [List.take_length, ho] at S
         have K := S.k
         have hM := S.blk
         clear S
         have hMn := HMN.out _ ho
         clear ho
         have t0 : W6.cell? ⟨gm, 0, none⟩ = some (.int .i64 0) := hM.cell 0
         have t1 : W6.cell? ⟨gm, 1, none⟩ = some (.int .i64 0) := hM.cell 1
         have t2 : W6.cell? ⟨gm, 2, none⟩ = some (.int .i64 0) := hM.cell 2
         have t3 : W6.cell? ⟨gm, 3, none⟩ = some (.int .i64 0) := hM.cell 3
         have t4 : W6.cell? ⟨gm, 4, none⟩ = some (.int .i64 0) := hM.cell 4
         have t5 : W6.cell? ⟨gm, 5, none⟩ = some (.int .i64 0) := hM.cell 5
         have t6 : W6.cell? ⟨gm, 6, none⟩ = some (.bool false) := hM.cell 6
         have t7 : W6.cell? ⟨gm, 7, none⟩ = some (.int .i64 bs) := hM.cell 7
         have t8 : W6.cell? ⟨gm, 8, none⟩ = some (.string bm) := hM.cell 8
         have HK6 := hd0 K
         have HMM := hd0 hMn
         have hm9 : (countS (x.rs.take k)).toNat + j ≤ 4000 := by have := HB2.out; omega
         clear hM K hMn
         go_wp2_with (at_builtin; refine app_own_b rfl _ _ 138 rfl 228 (.agg #[.int .i64 0, .int .i64 0, .int .i64 0, .int .i64 0, .int .i64 0, .int .i64 0, .bool false, .int .i64 0, .string ⟨#[]⟩]) 9 80 Tryz.underlying138 info_mn rfl (by decide) w.heap.size (.slice av2 ((countS (x.rs.take k)).toNat + j) cv2) ((countS (x.rs.take k)).toNat + j) (mnCells (mainsTo x.l x.rs ((countS (x.rs.take k)).toNat + j))) _ rfl (HK6.out.j.row.alloc _) _ 1 1 (mn1 (mnOf none bs bm)) rfl rfl (cells_new ?_ _ _ _ rfl) (mn1_one _) (by omega) (by decide) ?_ ?_; (first | rfl | simp [size_ext]); (have := HK6.out.j.below.size; simp only [World.size_alloc]; omega); intro v' w1 hown' hgrow; have HO2 := hd0 hown'; obtain ⟨a', c', rfl, -, hc2, -⟩ := own_shape hown'; have hc3 : c' ≤ 9223372036854775807 := hc2; have HGR := hd0 hgrow; clear hown' hgrow hc2)
         go_roundw
         case rel => exact ⟨j + 1, by omega, by go_num, (HK6.out.grows gro).app HMM.out HO2.out HGR.out⟩
         case measure => simp [intOf]; omega
    ·have HK := hd0 K
     have HCS := hd0 (show (countS (x.rs.take (k + 1))).toNat = (countS (x.rs.take k)).toNat + j by omega)
     clear K hv4
     go_wp2_with fail
     go_roundw
     case rel => exact ⟨k + 1, by omega, by go_num, by rw [HCS.out]; exact HK.out.j⟩
     case measure => simp [intOf]; omega
  ·obtain rfl : k = x.rs.length := by omega
   rw [List.take_length] at J
   obtain ⟨av, cv, rfl, -, -, -⟩ := own_shape J.row
   have HJ := hd0 J
   clear J
   go_wp2
   go_ret
   exact ⟨_, rfl, HJ.out.row, ext_of HJ.out.below⟩
end Go.Proofs.YtkjljneehgmmaaaGreat
