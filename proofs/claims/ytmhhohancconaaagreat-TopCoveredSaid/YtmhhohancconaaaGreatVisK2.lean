/- VisF, VisG, VisH in one text. -/
import Derived.Test.YtmhhohancconaaaGreatVisK1
import Derived.Deep.RegionHeld3
namespace Go.Proofs.YtmhhohancconaaaGreat
open Go Go.RowKit
set_option maxRecDepth 20000

theorem cells_newX {w y : World} {g : Nat} (hg : g = w.heap.size) (cs : Array Value) (t : TypeId) (xs : List Value) (hx : cs.toList = xs) : ∀ j u, xs[j]? = some u → (ext (w.alloc (.cells cs t)) y).cell? ((⟨g, 0, none⟩ : Addr).add j) = some u :=
  fun j u hj => cell_ext_some (cells_new hg cs t xs hx j u hj) y
theorem two_cells {w : World} {go gA gB : Nat} {cs : Array Value} {a b p1 p2 q1 q2 : Int} (h : Op2 w go cs gA gB a b p1 p2 q1 q2) : ∀ (j : Nat) (u : Value), [.int .i64 0, .int .i64 a, .slice (some ⟨gA, 0, none⟩) 2 2, .int .i64 0, .int .i64 b, .slice (some ⟨gB, 0, none⟩) 2 2][j]? = some u → cs[j]? = some u := by
  intro j u hj
  match j, hj with
  | 0, hj => exact h.c0.trans hj
  | 1, hj => exact h.c1.trans hj
  | 2, hj => exact h.c2.trans hj
  | 3, hj => exact h.c3.trans hj
  | 4, hj => exact h.c4.trans hj
  | 5, hj => exact h.c5.trans hj
  | (j + 6), hj => simp at hj
set_option maxRecDepth 100000 in
set_option maxHeartbeats 8000000 in
theorem v3_c (gS g gO c4 go c gA gB : Nat) (cs : Array Value) (hc : 2 ≤ c) (hcm : c ≤ 9223372036854775807) (w : World) (h : SrchAt w gS g gO c4 (.slice none 0 0)) (h2 : Op2 w go cs gA gB 0 40 1 1 1 0) :
    Calls Tryz.prog 43 #[.pointer (some ⟨gS, 0, none⟩), .int .i64 3, .slice (some ⟨go, 0, none⟩) 2 c] w (RetV w gS g gO c4) := by
  have s1 : w.cell? ⟨gS, 1, none⟩ = some (.slice (some ⟨g, 0, none⟩) 2 2) := h.blk.cell 1
  have s2 : w.cell? ⟨gS, 2, none⟩ = some (.slice (some ⟨gO, 0, none⟩) 4 c4) := h.blk.cell 2
  have s3 : w.cell? ⟨gS, 3, none⟩ = some (.slice none 0 0) := h.blk.cell 3
  have o1 : w.cell? ⟨gO, 3, none⟩ = some (.int .i64 1) := h.o3
  have p1 : w.cell? ⟨g, 2, none⟩ = some (.int .i64 40) := Blk.cell h.pcs 2
  have HS0 := Lib.hid h
  have HO0 := Lib.hid h2
  have hmm := @run_makeMap Tryz.prog
  clear h h2
  go_enter Tryz.func43, Tryz.ntmps43
  go_upto_region 11 with fail
  obtain ⟨gM, hgM⟩ : ∃ g, g = w.heap.size := ⟨_, rfl⟩
  rw [← hgM]
  refine world_mask (fun W => VSt w gS g gO c4 go cs gA gB 0 40 1 1 1 0 gM 0 (fun _ => false) false (.slice none 0 0) W ∧ w.heap.size ≤ gM) _ ?_ ?_
  · have hb1 : Below w.heap.size w (w.alloc (.map #[] 0)) := by (repeat (first | exact grow_refl _ | refine grow_ext _ ?_ | refine grow_alloc _ ?_ | refine grow_drew ?_))
    exact ⟨⟨(Kp.refl w _).below hb1, HS0.out.below hb1, HO0.out.below hb1, by rw [hgM]; exact SeenM.made w, fun e => by cases e⟩, by omega⟩
  clear hgM hmm s1 s2 s3 o1 p1
  rintro W1 ⟨st1, hgM⟩
  have HGM := Lib.hid hgM
  have ST1 := Lib.hid st1
  have l1 : W1.cell? ⟨go, 1, none⟩ = some (.int .i64 0) := (st1.op.blk.cell 1).trans st1.op.c1
  have l4 : W1.cell? ⟨go, 4, none⟩ = some (.int .i64 40) := (st1.op.blk.cell 4).trans st1.op.c4
  have hlk := st1.map.look 40 rfl
  obtain ⟨D, m1, m2, m3⟩ := st1.map
  have M1 := Lib.hid m1
  have M2 := Lib.hid m2
  have M3 := Lib.hid m3
  clear st1 hgM m1 m2 m3
  go_wp2_with fail
  refine wp_loop_rounds 3 ?_
  rw [rounds_succ]
  go_wp2_with fail
  rw [rounds_succ]
  go_upto_region 16 with (at_mapUpdate; refine wpList_mapUpdate_own _ rfl _ _ _ 142 rfl 3 4 ints_law Tryz.underlying142 _ gM 0 D rfl M1.out (by unfold maxLen; omega) _ _ (.int .i64 40) rfl rfl (Maps.keyOf_int_mk Tryz.underlying3 rfl) (.lit (.bool true)) [] (plainElem_bool Tryz.underlying4 true) ?_; intro W2 hown2 hgrow2; have hm2 := SeenM.put M2.out M3.out hown2; have st2 := ST1.out.put HS0.out HO0.out HGM.out hgrow2 rfl hm2; clear hown2 hgrow2 hm2; have ST2 := Lib.hid st2; have e1 : W2.cell? ⟨go, 4, none⟩ = some (.int .i64 40) := (st2.op.blk.cell 4).trans st2.op.c4; have f1 : W2.frozen? ⟨go, 4, none⟩ = false := st2.op.blk.frozen 4; clear st2)
  clear l1 l4 hlk M1 M2 M3
  go_upto_region 17 with fail
  refine world_mask (fun W => VSt w gS g gO c4 go (cs.setIfInBounds 4 (.int .i64 0)) gA gB 0 0 1 1 1 0 gM 1 (fun j => if j = 40 then true else (fun _ => false) j) false (.slice none 0 0) W) _ (ST2.out.store HS0.out HO0.out HGM.out (.inl rfl) (ST2.out.op.setLB 0)) ?_
  clear e1 f1
  rintro W3 st3
  have ST3 := Lib.hid st3
  have e0 : W3.cell? ⟨go, 5, none⟩ = some (.slice (some ⟨gB, 0, none⟩) 2 2) := (st3.op.blk.cell 5).trans st3.op.c5
  have e1 : W3.cell? ⟨gB, 1, none⟩ = some (.int .i64 0) := st3.op.pb.cell 1
  have f1 : W3.frozen? ⟨gB, 1, none⟩ = false := st3.op.pb.frozen 1
  clear st3
  clear ST2
  go_upto_region 18 with fail
  refine world_mask (fun W => VSt w gS g gO c4 go (cs.setIfInBounds 4 (.int .i64 0)) gA gB 0 0 1 1 1 1 gM 1 (fun j => if j = 40 then true else (fun _ => false) j) false (.slice none 0 0) W) _ (ST3.out.store HS0.out HO0.out HGM.out (.inr (.inr rfl)) (ST3.out.op.setPB 1)) ?_
  clear e1 f1
  rintro W4 st4
  have ST4 := Lib.hid st4
  clear st4
  clear ST3
  clear e0
  go_upto_region 19 with (go_at_call 43; refine (v4_c gS g gO c4 go c gA gB _ hc hcm _ ST4.out.srch ST4.out.op).mono ?_; rintro e W5 ⟨⟨vq, rfl⟩, hret⟩; have hst5 := ST4.out.call HS0.out HO0.out HGM.out hret; clear hret; obtain ⟨bb, cb, st5⟩ := hst5; have ST5 := Lib.hid st5; have e1 : W5.cell? ⟨go, 4, none⟩ = some (.int .i64 0) := (st5.op.blk.cell 4).trans st5.op.c4; have f1 : W5.frozen? ⟨go, 4, none⟩ = false := st5.op.blk.frozen 4; clear st5)
  clear ST4
  go_upto_region 20 with fail
  refine world_mask (fun W => VSt w gS g gO c4 go cs gA gB 0 40 1 1 1 1 gM 1 (fun j => if j = 40 then true else (fun _ => false) j) true (.slice (some ⟨bb, 0, none⟩) 2 cb) W) _ (ST5.out.store HS0.out HO0.out HGM.out (.inl rfl) (by have := ST5.out.op.setLB 40; rw [set_back HO0.out.c4] at this; exact this)) ?_
  clear e1 f1
  rintro W6 st6
  have ST6 := Lib.hid st6
  have e0 : W6.cell? ⟨go, 5, none⟩ = some (.slice (some ⟨gB, 0, none⟩) 2 2) := (st6.op.blk.cell 5).trans st6.op.c5
  have e1 : W6.cell? ⟨gB, 1, none⟩ = some (.int .i64 1) := st6.op.pb.cell 1
  have f1 : W6.frozen? ⟨gB, 1, none⟩ = false := st6.op.pb.frozen 1
  clear st6
  clear ST5
  go_upto_region 21 with fail
  refine world_mask (fun W => VSt w gS g gO c4 go cs gA gB 0 40 1 1 1 0 gM 1 (fun j => if j = 40 then true else (fun _ => false) j) true (.slice (some ⟨bb, 0, none⟩) 2 cb) W) _ (ST6.out.store HS0.out HO0.out HGM.out (.inr (.inr rfl)) (ST6.out.op.setPB 0)) ?_
  clear e1 f1
  rintro W7 st7
  have ST7 := Lib.hid st7
  have s0 : W7.cell? ⟨gS, 0, none⟩ = some (.int .i64 100) := st7.srch.blk.cell 0
  have s1 : W7.cell? ⟨gS, 1, none⟩ = some (.slice (some ⟨g, 0, none⟩) 2 2) := st7.srch.blk.cell 1
  clear st7
  clear ST6
  clear e0
  go_wp2_with fail
  rw [rounds_succ]
  have hmk := run_mk2
  go_upto_region 22 with fail
  go_cut [12] (fun s12 wx => ∃ gF gp, s12 = .pointer (some ⟨gF, 0, none⟩) ∧ Blk wx gF #[.int .i64 0, .int .i64 60, .slice (some ⟨gp, 0, none⟩) 2 2] 140 ∧ Blk wx gp #[.int .i64 0, .int .i64 0] 3 ∧ Below W7.heap.size W7 wx ∧ W7.heap.size ≤ gF ∧ W7.heap.size ≤ gp)
  case first =>
    go_region
    all_goals
      go_wp2_with fail
      go_meet
      first
        | exact ⟨_, _, rfl, Blk.new' (by simp only [World.size_alloc]) _ _, (Blk.new _ _ _).alloc _, by (repeat (first | exact grow_refl _ | refine grow_ext _ ?_ | refine grow_alloc _ ?_ | refine grow_drew ?_)), by omega, by omega⟩
        | exact ⟨_, _, rfl, (Blk.new _ _ _).alloc _, Blk.new' (by simp only [World.size_alloc]) _ _, by (repeat (first | exact grow_refl _ | refine grow_ext _ ?_ | refine grow_alloc _ ?_ | refine grow_drew ?_)), by omega, by omega⟩
  case rest =>
    obtain ⟨gF, gp, rfl, hF, hp, hb8, hgF, hgp⟩ := hcut
    obtain ⟨W8, rfl⟩ : ∃ W : World, W = wc := ⟨_, rfl⟩
    have f2 : W8.cell? ⟨gF, 2, none⟩ = some (.slice (some ⟨gp, 0, none⟩) 2 2) := hF.cell 2
    have k0 : W8.cell? ⟨gp, 1, none⟩ = some (.int .i64 0) := hp.cell 1
    have kf : W8.frozen? ⟨gp, 1, none⟩ = false := hp.frozen 1
    have hne : gF ≠ gp := blk_ne hF hp (by decide)
    clear hmk
    go_upto_region 24 with fail
    refine world_mask (fun W => VSt w gS g gO c4 go cs gA gB 0 40 1 1 1 0 gM 1 (fun j => if j = 40 then true else (fun _ => false) j) true (.slice (some ⟨bb, 0, none⟩) 2 cb) W ∧ Blk W gF #[.int .i64 0, .int .i64 60, .slice (some ⟨gp, 0, none⟩) 2 2] 140) _ ⟨ST7.out.below (hb8.setCell hgp _), hF.other hne _⟩ ?_
    clear hF hp hb8 hgF hgp f2 k0 kf hne ST7
    rintro W9 ⟨st9, hF⟩
    have HX := Lib.hid (two_cells HO0.out)
    have HB9 := Lib.hid st9.op.blk
    have HS9 := Lib.hid st9.srch
    have ST9 := Lib.hid st9
    have f0 : W9.cell? ⟨gF, 0, none⟩ = some (.int .i64 0) := hF.cell 0
    have f1 : W9.cell? ⟨gF, 1, none⟩ = some (.int .i64 60) := hF.cell 1
    have f2 : W9.cell? ⟨gF, 2, none⟩ = some (.slice (some ⟨gp, 0, none⟩) 2 2) := hF.cell 2
    clear st9 hF
    go_region_held3 (fun w' => w'.cell? ⟨gF, 0, none⟩ = some (.int .i64 0) ∧ w'.cell? ⟨gF, 1, none⟩ = some (.int .i64 60) ∧ w'.cell? ⟨gF, 2, none⟩ = some (.slice (some ⟨gp, 0, none⟩) 2 2)) (simp [go_sem, *])
      (first
        | (go_at_call 71; refine Calls.mono (clip_c go 2 c hc hcm _) ?_; rintro e w' ⟨rfl, x1, rfl⟩)
        | (refine step_app_clip rfl _ _ 110 rfl 140 (.agg #[.int .i64 0, .int .i64 0, .slice none 0 0]) 3 40 Tryz.underlying110 info_bar rfl _ go 2 _ rfl rfl (blk_cells (HB9.out.below (by (repeat (first | exact grow_refl _ | refine grow_ext _ ?_ | refine grow_alloc _ ?_ | refine grow_drew ?_)))) HX.out) _ 1 1 [.int .i64 0, .int .i64 60, .slice (some ⟨gp, 0, none⟩) 2 2] rfl rfl ?_ (by decide) (by decide) (by decide) ?_; (first | (refine cells_new ?_ _ _ _ rfl; simp [size_ext]) | (refine cells_newX ?_ _ _ _ rfl; first | rfl | simp)); intro v' x2 hown; obtain ⟨g9, cap9, cur9, rfl, -, -, -, -, -⟩ := own_blk hown (by decide); clear hown)
        | (go_at_call 43; refine Calls.mono (pruned_c gS g gO c4 bb cb _ g9 _ cap9 (by decide) _ (HS9.out.below (by (repeat (first | exact grow_refl _ | refine grow_ext _ ?_ | refine grow_alloc _ ?_ | refine grow_drew ?_))))) ?_; rintro e w' ⟨⟨vq, rfl⟩, x3, rfl⟩))
    all_goals
      go_end0
      exact ⟨⟨_, rfl⟩, (ST9.out.below (by (repeat (first | exact grow_refl _ | refine grow_ext _ ?_ | refine grow_alloc _ ?_ | refine grow_drew ?_)))).fin HO0.out⟩
set_option maxRecDepth 100000 in
set_option maxHeartbeats 8000000 in
theorem v2_c (gS g gO c4 go c gA gB : Nat) (cs : Array Value) (hc : 2 ≤ c) (hcm : c ≤ 9223372036854775807) (w : World) (h : SrchAt w gS g gO c4 (.slice none 0 0)) (h2 : Op2 w go cs gA gB 40 40 1 0 1 0) :
    Calls Tryz.prog 43 #[.pointer (some ⟨gS, 0, none⟩), .int .i64 2, .slice (some ⟨go, 0, none⟩) 2 c] w (RetV w gS g gO c4) := by
  have s1 : w.cell? ⟨gS, 1, none⟩ = some (.slice (some ⟨g, 0, none⟩) 2 2) := h.blk.cell 1
  have s2 : w.cell? ⟨gS, 2, none⟩ = some (.slice (some ⟨gO, 0, none⟩) 4 c4) := h.blk.cell 2
  have s3 : w.cell? ⟨gS, 3, none⟩ = some (.slice none 0 0) := h.blk.cell 3
  have o1 : w.cell? ⟨gO, 2, none⟩ = some (.int .i64 1) := h.o2
  have p1 : w.cell? ⟨g, 2, none⟩ = some (.int .i64 40) := Blk.cell h.pcs 2
  have HS0 := Lib.hid h
  have HO0 := Lib.hid h2
  have hmm := @run_makeMap Tryz.prog
  clear h h2
  go_enter Tryz.func43, Tryz.ntmps43
  go_upto_region 11 with fail
  obtain ⟨gM, hgM⟩ : ∃ g, g = w.heap.size := ⟨_, rfl⟩
  rw [← hgM]
  refine world_mask (fun W => VSt w gS g gO c4 go cs gA gB 40 40 1 0 1 0 gM 0 (fun _ => false) false (.slice none 0 0) W ∧ w.heap.size ≤ gM) _ ?_ ?_
  · have hb1 : Below w.heap.size w (w.alloc (.map #[] 0)) := by (repeat (first | exact grow_refl _ | refine grow_ext _ ?_ | refine grow_alloc _ ?_ | refine grow_drew ?_))
    exact ⟨⟨(Kp.refl w _).below hb1, HS0.out.below hb1, HO0.out.below hb1, by rw [hgM]; exact SeenM.made w, fun e => by cases e⟩, by omega⟩
  clear hgM hmm s1 s2 s3 o1 p1
  rintro W1 ⟨st1, hgM⟩
  have HGM := Lib.hid hgM
  have ST1 := Lib.hid st1
  have l1 : W1.cell? ⟨go, 1, none⟩ = some (.int .i64 40) := (st1.op.blk.cell 1).trans st1.op.c1
  have l4 : W1.cell? ⟨go, 4, none⟩ = some (.int .i64 40) := (st1.op.blk.cell 4).trans st1.op.c4
  have hlk := st1.map.look 40 rfl
  obtain ⟨D, m1, m2, m3⟩ := st1.map
  have M1 := Lib.hid m1
  have M2 := Lib.hid m2
  have M3 := Lib.hid m3
  clear st1 hgM m1 m2 m3
  go_wp2_with fail
  refine wp_loop_rounds 3 ?_
  rw [rounds_succ]
  go_upto_region 16 with (at_mapUpdate; refine wpList_mapUpdate_own _ rfl _ _ _ 142 rfl 3 4 ints_law Tryz.underlying142 _ gM 0 D rfl M1.out (by unfold maxLen; omega) _ _ (.int .i64 40) rfl rfl (Maps.keyOf_int_mk Tryz.underlying3 rfl) (.lit (.bool true)) [] (plainElem_bool Tryz.underlying4 true) ?_; intro W2 hown2 hgrow2; have hm2 := SeenM.put M2.out M3.out hown2; have st2 := ST1.out.put HS0.out HO0.out HGM.out hgrow2 rfl hm2; clear hown2 hgrow2 hm2; have ST2 := Lib.hid st2; have e1 : W2.cell? ⟨go, 1, none⟩ = some (.int .i64 40) := (st2.op.blk.cell 1).trans st2.op.c1; have f1 : W2.frozen? ⟨go, 1, none⟩ = false := st2.op.blk.frozen 1; clear st2)
  clear l1 l4 hlk M1 M2 M3
  go_upto_region 17 with fail
  refine world_mask (fun W => VSt w gS g gO c4 go (cs.setIfInBounds 1 (.int .i64 0)) gA gB 0 40 1 0 1 0 gM 1 (fun j => if j = 40 then true else (fun _ => false) j) false (.slice none 0 0) W) _ (ST2.out.store HS0.out HO0.out HGM.out (.inl rfl) (ST2.out.op.setLA 0)) ?_
  clear e1 f1
  rintro W3 st3
  have ST3 := Lib.hid st3
  have e0 : W3.cell? ⟨go, 2, none⟩ = some (.slice (some ⟨gA, 0, none⟩) 2 2) := (st3.op.blk.cell 2).trans st3.op.c2
  have e1 : W3.cell? ⟨gA, 1, none⟩ = some (.int .i64 0) := st3.op.pa.cell 1
  have f1 : W3.frozen? ⟨gA, 1, none⟩ = false := st3.op.pa.frozen 1
  clear st3
  clear ST2
  go_upto_region 18 with fail
  refine world_mask (fun W => VSt w gS g gO c4 go (cs.setIfInBounds 1 (.int .i64 0)) gA gB 0 40 1 1 1 0 gM 1 (fun j => if j = 40 then true else (fun _ => false) j) false (.slice none 0 0) W) _ (ST3.out.store HS0.out HO0.out HGM.out (.inr (.inl rfl)) (ST3.out.op.setPA 1)) ?_
  clear e1 f1
  rintro W4 st4
  have ST4 := Lib.hid st4
  clear st4
  clear ST3
  clear e0
  go_upto_region 19 with (go_at_call 43; refine (v3_c gS g gO c4 go c gA gB _ hc hcm _ ST4.out.srch ST4.out.op).mono ?_; rintro e W5 ⟨⟨vq, rfl⟩, hret⟩; have hst5 := ST4.out.call HS0.out HO0.out HGM.out hret; clear hret; obtain ⟨bb, cb, st5⟩ := hst5; have ST5 := Lib.hid st5; have e1 : W5.cell? ⟨go, 1, none⟩ = some (.int .i64 0) := (st5.op.blk.cell 1).trans st5.op.c1; have f1 : W5.frozen? ⟨go, 1, none⟩ = false := st5.op.blk.frozen 1; clear st5)
  clear ST4
  go_upto_region 20 with fail
  refine world_mask (fun W => VSt w gS g gO c4 go cs gA gB 40 40 1 1 1 0 gM 1 (fun j => if j = 40 then true else (fun _ => false) j) true (.slice (some ⟨bb, 0, none⟩) 2 cb) W) _ (ST5.out.store HS0.out HO0.out HGM.out (.inl rfl) (by have := ST5.out.op.setLA 40; rw [set_back HO0.out.c1] at this; exact this)) ?_
  clear e1 f1
  rintro W6 st6
  have ST6 := Lib.hid st6
  have e0 : W6.cell? ⟨go, 2, none⟩ = some (.slice (some ⟨gA, 0, none⟩) 2 2) := (st6.op.blk.cell 2).trans st6.op.c2
  have e1 : W6.cell? ⟨gA, 1, none⟩ = some (.int .i64 1) := st6.op.pa.cell 1
  have f1 : W6.frozen? ⟨gA, 1, none⟩ = false := st6.op.pa.frozen 1
  clear st6
  clear ST5
  go_upto_region 21 with fail
  refine world_mask (fun W => VSt w gS g gO c4 go cs gA gB 40 40 1 0 1 0 gM 1 (fun j => if j = 40 then true else (fun _ => false) j) true (.slice (some ⟨bb, 0, none⟩) 2 cb) W) _ (ST6.out.store HS0.out HO0.out HGM.out (.inr (.inl rfl)) (ST6.out.op.setPA 0)) ?_
  clear e1 f1
  rintro W7 st7
  have ST7 := Lib.hid st7
  have s0 : W7.cell? ⟨gS, 0, none⟩ = some (.int .i64 100) := st7.srch.blk.cell 0
  have s1 : W7.cell? ⟨gS, 1, none⟩ = some (.slice (some ⟨g, 0, none⟩) 2 2) := st7.srch.blk.cell 1
  have l4 : W7.cell? ⟨go, 4, none⟩ = some (.int .i64 40) := (st7.op.blk.cell 4).trans st7.op.c4
  have hlk := st7.map.look 40 rfl
  clear st7
  clear ST6
  clear e0
  go_wp2_with fail
  rw [rounds_succ]
  go_wp2_with fail
  rw [rounds_succ]
  have hmk := run_mk2
  go_upto_region 22 with fail
  go_cut [12] (fun s12 wx => ∃ gF gp, s12 = .pointer (some ⟨gF, 0, none⟩) ∧ Blk wx gF #[.int .i64 0, .int .i64 60, .slice (some ⟨gp, 0, none⟩) 2 2] 140 ∧ Blk wx gp #[.int .i64 0, .int .i64 0] 3 ∧ Below W7.heap.size W7 wx ∧ W7.heap.size ≤ gF ∧ W7.heap.size ≤ gp)
  case first =>
    go_region
    all_goals
      go_wp2_with fail
      go_meet
      first
        | exact ⟨_, _, rfl, Blk.new' (by simp only [World.size_alloc]) _ _, (Blk.new _ _ _).alloc _, by (repeat (first | exact grow_refl _ | refine grow_ext _ ?_ | refine grow_alloc _ ?_ | refine grow_drew ?_)), by omega, by omega⟩
        | exact ⟨_, _, rfl, (Blk.new _ _ _).alloc _, Blk.new' (by simp only [World.size_alloc]) _ _, by (repeat (first | exact grow_refl _ | refine grow_ext _ ?_ | refine grow_alloc _ ?_ | refine grow_drew ?_)), by omega, by omega⟩
  case rest =>
    obtain ⟨gF, gp, rfl, hF, hp, hb8, hgF, hgp⟩ := hcut
    obtain ⟨W8, rfl⟩ : ∃ W : World, W = wc := ⟨_, rfl⟩
    have f2 : W8.cell? ⟨gF, 2, none⟩ = some (.slice (some ⟨gp, 0, none⟩) 2 2) := hF.cell 2
    have k0 : W8.cell? ⟨gp, 1, none⟩ = some (.int .i64 0) := hp.cell 1
    have kf : W8.frozen? ⟨gp, 1, none⟩ = false := hp.frozen 1
    have hne : gF ≠ gp := blk_ne hF hp (by decide)
    clear hmk
    go_upto_region 24 with fail
    refine world_mask (fun W => VSt w gS g gO c4 go cs gA gB 40 40 1 0 1 0 gM 1 (fun j => if j = 40 then true else (fun _ => false) j) true (.slice (some ⟨bb, 0, none⟩) 2 cb) W ∧ Blk W gF #[.int .i64 0, .int .i64 60, .slice (some ⟨gp, 0, none⟩) 2 2] 140) _ ⟨ST7.out.below (hb8.setCell hgp _), hF.other hne _⟩ ?_
    clear hF hp hb8 hgF hgp f2 k0 kf hne ST7
    rintro W9 ⟨st9, hF⟩
    have HX := Lib.hid (two_cells HO0.out)
    have HB9 := Lib.hid st9.op.blk
    have HS9 := Lib.hid st9.srch
    have ST9 := Lib.hid st9
    have f0 : W9.cell? ⟨gF, 0, none⟩ = some (.int .i64 0) := hF.cell 0
    have f1 : W9.cell? ⟨gF, 1, none⟩ = some (.int .i64 60) := hF.cell 1
    have f2 : W9.cell? ⟨gF, 2, none⟩ = some (.slice (some ⟨gp, 0, none⟩) 2 2) := hF.cell 2
    clear st9 hF
    go_region_held3 (fun w' => w'.cell? ⟨gF, 0, none⟩ = some (.int .i64 0) ∧ w'.cell? ⟨gF, 1, none⟩ = some (.int .i64 60) ∧ w'.cell? ⟨gF, 2, none⟩ = some (.slice (some ⟨gp, 0, none⟩) 2 2)) (simp [go_sem, *])
      (first
        | (go_at_call 71; refine Calls.mono (clip_c go 2 c hc hcm _) ?_; rintro e w' ⟨rfl, x1, rfl⟩)
        | (refine step_app_clip rfl _ _ 110 rfl 140 (.agg #[.int .i64 0, .int .i64 0, .slice none 0 0]) 3 40 Tryz.underlying110 info_bar rfl _ go 2 _ rfl rfl (blk_cells (HB9.out.below (by (repeat (first | exact grow_refl _ | refine grow_ext _ ?_ | refine grow_alloc _ ?_ | refine grow_drew ?_)))) HX.out) _ 1 1 [.int .i64 0, .int .i64 60, .slice (some ⟨gp, 0, none⟩) 2 2] rfl rfl ?_ (by decide) (by decide) (by decide) ?_; (first | (refine cells_new ?_ _ _ _ rfl; simp [size_ext]) | (refine cells_newX ?_ _ _ _ rfl; first | rfl | simp)); intro v' x2 hown; obtain ⟨g9, cap9, cur9, rfl, -, -, -, -, -⟩ := own_blk hown (by decide); clear hown)
        | (go_at_call 43; refine Calls.mono (pruned_c gS g gO c4 bb cb _ g9 _ cap9 (by decide) _ (HS9.out.below (by (repeat (first | exact grow_refl _ | refine grow_ext _ ?_ | refine grow_alloc _ ?_ | refine grow_drew ?_))))) ?_; rintro e w' ⟨⟨vq, rfl⟩, x3, rfl⟩))
    all_goals
      go_end0
      exact ⟨⟨_, rfl⟩, (ST9.out.below (by (repeat (first | exact grow_refl _ | refine grow_ext _ ?_ | refine grow_alloc _ ?_ | refine grow_drew ?_)))).fin HO0.out⟩
end Go.Proofs.YtmhhohancconaaaGreat

namespace Go.Proofs.YtmhhohancconaaaGreat
open Go Go.RowKit
set_option maxRecDepth 20000

structure Op1 (w : World) (go : Nat) (cs : Array Value) (gA : Nat) : Prop where
  blk : Blk w go cs 140
  c0 : cs[0]? = some (.int .i64 0)
  c1 : cs[1]? = some (.int .i64 40)
  c2 : cs[2]? = some (.slice (some ⟨gA, 0, none⟩) 2 2)
  pa : Blk w gA #[.int .i64 1, .int .i64 0] 3
theorem one_cells {w : World} {go gA : Nat} {cs : Array Value} (h : Op1 w go cs gA) : ∀ (j : Nat) (u : Value), [.int .i64 0, .int .i64 40, .slice (some ⟨gA, 0, none⟩) 2 2][j]? = some u → cs[j]? = some u := by
  intro j u hj
  match j, hj with
  | 0, hj => exact h.c0.trans hj
  | 1, hj => exact h.c1.trans hj
  | 2, hj => exact h.c2.trans hj
  | (j + 3), hj => simp at hj
theorem BestK.since {w W W' : World} {gS g gO c4 n : Nat} (hb : Below w.heap.size w W) (h : BestK W gS g gO c4 n W') : BestK w gS g gO c4 n W' := by
  obtain ⟨hg, old, us, h1, h2, h3, h4⟩ := h
  refine ⟨⟨hg.os.trans hb.os, hg.tape.trans hb.tape, hg.output.trans hb.output, Nat.le_trans hb.size hg.size, fun k k1 k2 => ?_⟩, old, us, h1, h2, own_mono h3 hb.size, fun u hu => own_mono (h4 u hu) hb.size⟩
  rw [hg.block k (Nat.lt_of_lt_of_le k1 hb.size) k2]
  exact hb.block k k1
set_option maxRecDepth 100000 in
set_option maxHeartbeats 8000000 in
theorem v1_c (gS g gO c4 go c gA : Nat) (cs : Array Value) (hc : 1 ≤ c) (hcm : c ≤ 9223372036854775807) (w : World) (h : SrchAt w gS g gO c4 (.slice none 0 0)) (h1 : Op1 w go cs gA) :
    Calls Tryz.prog 43 #[.pointer (some ⟨gS, 0, none⟩), .int .i64 1, .slice (some ⟨go, 0, none⟩) 1 c] w (RetV w gS g gO c4) := by
  have s1 : w.cell? ⟨gS, 1, none⟩ = some (.slice (some ⟨g, 0, none⟩) 2 2) := h.blk.cell 1
  have s2 : w.cell? ⟨gS, 2, none⟩ = some (.slice (some ⟨gO, 0, none⟩) 4 c4) := h.blk.cell 2
  have s3 : w.cell? ⟨gS, 3, none⟩ = some (.slice none 0 0) := h.blk.cell 3
  have o1 : w.cell? ⟨gO, 1, none⟩ = some (.int .i64 0) := h.o1
  have p1 : w.cell? ⟨g, 0, none⟩ = some (.int .i64 60) := Blk.cell h.pcs 0
  have HS0 := Lib.hid h
  have HO0 := Lib.hid h1
  have hmm := @run_makeMap Tryz.prog
  clear h h1
  go_enter Tryz.func43, Tryz.ntmps43
  go_upto_region 11 with fail
  refine world_mask (fun W => Below w.heap.size w W) _ (by (repeat (first | exact grow_refl _ | refine grow_ext _ ?_ | refine grow_alloc _ ?_ | refine grow_drew ?_))) ?_
  clear hmm s1 s2 s3 o1 p1
  intro W1 hb1
  have HB1 := Lib.hid hb1
  have l1 : W1.cell? ⟨go, 1, none⟩ = some (.int .i64 40) := ((HO0.out.blk.below hb1).cell 1).trans HO0.out.c1
  have s0 : W1.cell? ⟨gS, 0, none⟩ = some (.int .i64 100) := (HS0.out.below hb1).blk.cell 0
  have s1 : W1.cell? ⟨gS, 1, none⟩ = some (.slice (some ⟨g, 0, none⟩) 2 2) := (HS0.out.below hb1).blk.cell 1
  clear hb1
  go_wp2_with fail
  refine wp_loop_rounds 2 ?_
  rw [rounds_succ]
  go_wp2_with fail
  rw [rounds_succ]
  go_wp2_with fail
  have hmk := run_mk2
  go_upto_region 22 with fail
  go_cut [12] (fun s12 wx => ∃ gF gp, s12 = .pointer (some ⟨gF, 0, none⟩) ∧ Blk wx gF #[.int .i64 0, .int .i64 40, .slice (some ⟨gp, 0, none⟩) 2 2] 140 ∧ Blk wx gp #[.int .i64 0, .int .i64 0] 3 ∧ Below W1.heap.size W1 wx ∧ W1.heap.size ≤ gF ∧ W1.heap.size ≤ gp)
  case first =>
    go_region
    all_goals
      go_wp2_with fail
      go_meet
      first
        | exact ⟨_, _, rfl, Blk.new' (by simp only [World.size_alloc]) _ _, (Blk.new _ _ _).alloc _, by (repeat (first | exact grow_refl _ | refine grow_ext _ ?_ | refine grow_alloc _ ?_ | refine grow_drew ?_)), by omega, by omega⟩
        | exact ⟨_, _, rfl, (Blk.new _ _ _).alloc _, Blk.new' (by simp only [World.size_alloc]) _ _, by (repeat (first | exact grow_refl _ | refine grow_ext _ ?_ | refine grow_alloc _ ?_ | refine grow_drew ?_)), by omega, by omega⟩
  case rest =>
    obtain ⟨gF, gp, rfl, hF, hp, hb8, hgF, hgp⟩ := hcut
    obtain ⟨W8, rfl⟩ : ∃ W : World, W = wc := ⟨_, rfl⟩
    have f2 : W8.cell? ⟨gF, 2, none⟩ = some (.slice (some ⟨gp, 0, none⟩) 2 2) := hF.cell 2
    have k0 : W8.cell? ⟨gp, 0, none⟩ = some (.int .i64 0) := hp.cell 0
    have kf : W8.frozen? ⟨gp, 0, none⟩ = false := hp.frozen 0
    have hne : gF ≠ gp := blk_ne hF hp (by decide)
    clear hmk
    go_upto_region 24 with fail
    refine world_mask (fun W => Below w.heap.size w W ∧ Blk W gF #[.int .i64 0, .int .i64 40, .slice (some ⟨gp, 0, none⟩) 2 2] 140 ∧ Blk W gp #[.int .i64 1, .int .i64 0] 3 ∧ w.heap.size ≤ gF ∧ w.heap.size ≤ gp) _ ⟨HB1.out.trans (Below.mono (hb8.setCell hgp _) HB1.out.size), hF.other hne _, hp.set 0 _, Nat.le_trans HB1.out.size hgF, Nat.le_trans HB1.out.size hgp⟩ ?_
    clear hF hp hb8 hgF hgp f2 k0 kf hne
    rintro W9 ⟨hb9, hF, hp, hgF, hgp⟩
    have HBW := Lib.hid hb9
    have HS9 := Lib.hid (HS0.out.below hb9)
    have HX := Lib.hid (one_cells HO0.out)
    have HB9 := Lib.hid (HO0.out.blk.below hb9)
    have HA9 := Lib.hid (HO0.out.pa.below hb9)
    have HNE := Lib.hid (show gA ≠ gp by have := HO0.out.pa.lt; omega)
    have HP9 := Lib.hid hp
    have HF9 := Lib.hid hF
    have HNS := Lib.hid (show gF ≠ gS by have := HS0.out.blk.lt; omega)
    have f0 : W9.cell? ⟨gF, 0, none⟩ = some (.int .i64 0) := hF.cell 0
    have f1 : W9.cell? ⟨gF, 1, none⟩ = some (.int .i64 40) := hF.cell 1
    have f2 : W9.cell? ⟨gF, 2, none⟩ = some (.slice (some ⟨gp, 0, none⟩) 2 2) := hF.cell 2
    clear hb9 hF hp hgF hgp
    go_region_held3 (fun w' => w'.cell? ⟨gF, 0, none⟩ = some (.int .i64 0) ∧ w'.cell? ⟨gF, 1, none⟩ = some (.int .i64 40) ∧ w'.cell? ⟨gF, 2, none⟩ = some (.slice (some ⟨gp, 0, none⟩) 2 2)) (simp [go_sem, *])
      (first
        | (go_at_call 71; refine Calls.mono (clip_c go 1 c hc hcm _) ?_; rintro e w' ⟨rfl, x1, rfl⟩)
        | (refine step_app_clip rfl _ _ 110 rfl 140 (.agg #[.int .i64 0, .int .i64 0, .slice none 0 0]) 3 40 Tryz.underlying110 info_bar rfl _ go 1 _ rfl rfl (blk_cells (HB9.out.below (by (repeat (first | exact grow_refl _ | refine grow_ext _ ?_ | refine grow_alloc _ ?_ | refine grow_drew ?_)))) HX.out) _ 1 1 [.int .i64 0, .int .i64 40, .slice (some ⟨gp, 0, none⟩) 2 2] rfl rfl ?_ (by decide) (by decide) (by decide) ?_; (first | (refine cells_new ?_ _ _ _ rfl; simp [size_ext]) | (refine cells_newX ?_ _ _ _ rfl; first | rfl | simp)); intro v' x2 hown; obtain ⟨g9, cap9, cur9, rfl, -, hc9, hn9, hm9, hx9⟩ := own_blk hown (by decide); have HC9 := Lib.hid hc9; have HX9 := Lib.hid hx9; clear hown hc9 hx9)
        | (go_at_call 43; refine Calls.mono (v2_c gS g gO c4 g9 cap9 gA gp cur9 hn9 hm9 _ (HS9.out.below (by (repeat (first | exact grow_refl _ | refine grow_ext _ ?_ | refine grow_alloc _ ?_ | refine grow_drew ?_)))) ⟨HC9.out.below (by (repeat (first | exact grow_refl _ | refine grow_ext _ ?_ | refine grow_alloc _ ?_ | refine grow_drew ?_))), HX9.out 0 _ rfl, HX9.out 1 _ rfl, HX9.out 2 _ rfl, HX9.out 3 _ rfl, HX9.out 4 _ rfl, HX9.out 5 _ rfl, HA9.out.below (by (repeat (first | exact grow_refl _ | refine grow_ext _ ?_ | refine grow_alloc _ ?_ | refine grow_drew ?_))), HP9.out.below (by (repeat (first | exact grow_refl _ | refine grow_ext _ ?_ | refine grow_alloc _ ?_ | refine grow_drew ?_))), HNE.out⟩) ?_; rintro e w' ⟨⟨vq, rfl⟩, hret⟩; have hq := Blk.grown (HF9.out.below (by (repeat (first | exact grow_refl _ | refine grow_ext _ ?_ | refine grow_alloc _ ?_ | refine grow_drew ?_)))) hret.1 (fun e => HNS.out (Option.some.inj e)); have z0 := hq.cell 0; have z1 := hq.cell 1; have z2 := hq.cell 2; have HRET := Lib.hid (BestK.since (w := w) (by (repeat (first | exact grow_refl _ | exact HBW.out | refine grow_ext _ ?_ | refine grow_alloc _ ?_ | refine grow_drew ?_))) hret); clear hret hq))
    all_goals
      go_end0
      exact ⟨⟨_, rfl⟩, HRET.out⟩
set_option maxRecDepth 100000 in
set_option maxHeartbeats 8000000 in
theorem v0_c (gS g gO c4 : Nat) (w : World) (h : SrchAt w gS g gO c4 (.slice none 0 0)) :
    Calls Tryz.prog 43 #[.pointer (some ⟨gS, 0, none⟩), .int .i64 0, .slice none 0 0] w (RetV w gS g gO c4) := by
  have s1 : w.cell? ⟨gS, 1, none⟩ = some (.slice (some ⟨g, 0, none⟩) 2 2) := h.blk.cell 1
  have s2 : w.cell? ⟨gS, 2, none⟩ = some (.slice (some ⟨gO, 0, none⟩) 4 c4) := h.blk.cell 2
  have s3 : w.cell? ⟨gS, 3, none⟩ = some (.slice none 0 0) := h.blk.cell 3
  have o1 : w.cell? ⟨gO, 0, none⟩ = some (.int .i64 0) := h.o0
  have p1 : w.cell? ⟨g, 0, none⟩ = some (.int .i64 60) := Blk.cell h.pcs 0
  have HS0 := Lib.hid h
  have hmm := @run_makeMap Tryz.prog
  clear h
  go_enter Tryz.func43, Tryz.ntmps43
  go_upto_region 11 with fail
  refine world_mask (fun W => Below w.heap.size w W) _ (by (repeat (first | exact grow_refl _ | refine grow_ext _ ?_ | refine grow_alloc _ ?_ | refine grow_drew ?_))) ?_
  clear hmm s1 s2 s3 o1 p1
  intro W1 hb1
  have HB1 := Lib.hid hb1
  have s0 : W1.cell? ⟨gS, 0, none⟩ = some (.int .i64 100) := (HS0.out.below hb1).blk.cell 0
  have s1 : W1.cell? ⟨gS, 1, none⟩ = some (.slice (some ⟨g, 0, none⟩) 2 2) := (HS0.out.below hb1).blk.cell 1
  clear hb1
  go_wp2_with fail
  refine wp_loop_rounds 2 ?_
  rw [rounds_succ]
  go_wp2_with fail
  have hmk := run_mk2
  go_upto_region 22 with fail
  go_cut [12] (fun s12 wx => ∃ gF gp, s12 = .pointer (some ⟨gF, 0, none⟩) ∧ Blk wx gF #[.int .i64 0, .int .i64 40, .slice (some ⟨gp, 0, none⟩) 2 2] 140 ∧ Blk wx gp #[.int .i64 0, .int .i64 0] 3 ∧ Below W1.heap.size W1 wx ∧ W1.heap.size ≤ gF ∧ W1.heap.size ≤ gp)
  case first =>
    go_region
    all_goals
      go_wp2_with fail
      go_meet
      first
        | exact ⟨_, _, rfl, Blk.new' (by simp only [World.size_alloc]) _ _, (Blk.new _ _ _).alloc _, by (repeat (first | exact grow_refl _ | refine grow_ext _ ?_ | refine grow_alloc _ ?_ | refine grow_drew ?_)), by omega, by omega⟩
        | exact ⟨_, _, rfl, (Blk.new _ _ _).alloc _, Blk.new' (by simp only [World.size_alloc]) _ _, by (repeat (first | exact grow_refl _ | refine grow_ext _ ?_ | refine grow_alloc _ ?_ | refine grow_drew ?_)), by omega, by omega⟩
  case rest =>
    obtain ⟨gF, gp, rfl, hF, hp, hb8, hgF, hgp⟩ := hcut
    obtain ⟨W8, rfl⟩ : ∃ W : World, W = wc := ⟨_, rfl⟩
    have f2 : W8.cell? ⟨gF, 2, none⟩ = some (.slice (some ⟨gp, 0, none⟩) 2 2) := hF.cell 2
    have k0 : W8.cell? ⟨gp, 0, none⟩ = some (.int .i64 0) := hp.cell 0
    have kf : W8.frozen? ⟨gp, 0, none⟩ = false := hp.frozen 0
    have hne : gF ≠ gp := blk_ne hF hp (by decide)
    clear hmk
    go_upto_region 24 with fail
    refine world_mask (fun W => Below w.heap.size w W ∧ Blk W gF #[.int .i64 0, .int .i64 40, .slice (some ⟨gp, 0, none⟩) 2 2] 140 ∧ Blk W gp #[.int .i64 1, .int .i64 0] 3 ∧ w.heap.size ≤ gF ∧ w.heap.size ≤ gp) _ ⟨HB1.out.trans (Below.mono (hb8.setCell hgp _) HB1.out.size), hF.other hne _, hp.set 0 _, Nat.le_trans HB1.out.size hgF, Nat.le_trans HB1.out.size hgp⟩ ?_
    clear hF hp hb8 hgF hgp f2 k0 kf hne
    rintro W9 ⟨hb9, hF, hp, hgF, hgp⟩
    have HBW := Lib.hid hb9
    have HS9 := Lib.hid (HS0.out.below hb9)
    have HP9 := Lib.hid hp
    have HF9 := Lib.hid hF
    have HNS := Lib.hid (show gF ≠ gS by have := HS0.out.blk.lt; omega)
    have f0 : W9.cell? ⟨gF, 0, none⟩ = some (.int .i64 0) := hF.cell 0
    have f1 : W9.cell? ⟨gF, 1, none⟩ = some (.int .i64 40) := hF.cell 1
    have f2 : W9.cell? ⟨gF, 2, none⟩ = some (.slice (some ⟨gp, 0, none⟩) 2 2) := hF.cell 2
    clear hb9 hF hp hgF hgp
    go_region_held3 (fun w' => w'.cell? ⟨gF, 0, none⟩ = some (.int .i64 0) ∧ w'.cell? ⟨gF, 1, none⟩ = some (.int .i64 40) ∧ w'.cell? ⟨gF, 2, none⟩ = some (.slice (some ⟨gp, 0, none⟩) 2 2)) (simp [go_sem, *])
      (first
        | (go_at_call 71; refine Calls.mono (clipNil_c _) ?_; rintro e w' ⟨rfl, x1, rfl⟩)
        | (refine step_app_own rfl _ _ 110 rfl 140 (.agg #[.int .i64 0, .int .i64 0, .slice none 0 0]) 3 40 Tryz.underlying110 info_bar rfl (by decide) W9 _ 0 [] _ rfl (World.ownsRow_nil _ _ _ _) _ 1 1 [.int .i64 0, .int .i64 40, .slice (some ⟨gp, 0, none⟩) 2 2] rfl rfl ?_ (by simp [Value.oneCell']) (by decide) (by decide) ?_ ?_; (first | (refine cells_new ?_ _ _ _ rfl; simp [size_ext]) | (refine cells_newX ?_ _ _ _ rfl; first | rfl | simp)); ((repeat (first | exact grow_refl _ | refine grow_ext _ ?_ | refine grow_alloc _ ?_ | refine grow_drew ?_))); intro v' x2 hown hgrow; obtain ⟨g9, cap9, cur9, rfl, -, hc9, hn9, hm9, hx9⟩ := own_blk hown (by decide); have HC9 := Lib.hid hc9; have HX9 := Lib.hid hx9; clear hown hc9 hx9 hgrow)
        | (go_at_call 43; refine Calls.mono (v1_c gS g gO c4 g9 cap9 gp cur9 hn9 hm9 _ (HS9.out.below (by (repeat (first | exact grow_refl _ | refine grow_ext _ ?_ | refine grow_alloc _ ?_ | refine grow_drew ?_)))) ⟨HC9.out.below (by (repeat (first | exact grow_refl _ | refine grow_ext _ ?_ | refine grow_alloc _ ?_ | refine grow_drew ?_))), HX9.out 0 _ rfl, HX9.out 1 _ rfl, HX9.out 2 _ rfl, HP9.out.below (by (repeat (first | exact grow_refl _ | refine grow_ext _ ?_ | refine grow_alloc _ ?_ | refine grow_drew ?_)))⟩) ?_; rintro e w' ⟨⟨vq, rfl⟩, hret⟩; have hq := Blk.grown (HF9.out.below (by (repeat (first | exact grow_refl _ | refine grow_ext _ ?_ | refine grow_alloc _ ?_ | refine grow_drew ?_)))) hret.1 (fun e => HNS.out (Option.some.inj e)); have z0 := hq.cell 0; have z1 := hq.cell 1; have z2 := hq.cell 2; have HRET := Lib.hid (BestK.since (w := w) (by (repeat (first | exact grow_refl _ | exact HBW.out | refine grow_ext _ ?_ | refine grow_alloc _ ?_ | refine grow_drew ?_))) hret); clear hret hq))
    all_goals
      go_end0
      exact ⟨⟨_, rfl⟩, HRET.out⟩
end Go.Proofs.YtmhhohancconaaaGreat

namespace Go.Proofs.YtmhhohancconaaaGreat
open Go Go.RowKit
set_option maxRecDepth 20000

theorem info_pat : (Tryz.prog.info? 145).map (fun i => (i.zero, i.size, i.bytes)) = some (some (.agg #[.int .i64 0, .slice none 0 0, .int .i64 0]), 3, 40) := by kernel_rfl
/-- Two ones, from a block's first cells on. -/
structure Ones (w : World) (g : Nat) : Prop where
  o0 : w.cell? ⟨g, 0, none⟩ = some (.int .i64 1)
  o1 : w.cell? ⟨g, 1, none⟩ = some (.int .i64 1)
theorem Ones.below {w W : World} {g : Nat} (h : Ones w g) (hb : Below w.heap.size w W) : Ones W g := by
  obtain ⟨x, rfl⟩ := ext_of hb
  exact ⟨cell_ext_some h.o0 x, cell_ext_some h.o1 x⟩
set_option maxRecDepth 100000 in
set_option maxHeartbeats 4000000 in
theorem equal2_c (gp c gq d : Nat) (w : World) (hp : Ones w gp) (hq : Ones w gq) : Calls Tryz.prog 72 #[.slice (some ⟨gp, 0, none⟩) 2 c, .slice (some ⟨gq, 0, none⟩) 2 d] w (Ret w (.bool true)) := by
  obtain ⟨p0, p1⟩ := hp
  obtain ⟨q0, q1⟩ := hq
  go_enter Tryz.func72, Tryz.ntmps72
  go_wp2_with fail
  refine wp_loop_rounds 3 ?_
  rw [rounds_succ]
  go_upto_region 6 with fail
  refine wp_region_grows (by kernel_rfl) (by kernel_rfl) ?_
  repeat (go_big_quiet_step (fail))
  refine wpQuiet_nil ?_; rintro _ ⟨xq, rfl⟩
  go_wp2_with fail
  rw [rounds_succ]
  go_upto_region 6 with fail
  refine wp_region_grows (by kernel_rfl) (by kernel_rfl) ?_
  repeat (go_big_quiet_step (fail))
  refine wpQuiet_nil ?_; rintro _ ⟨xq, rfl⟩
  go_wp2_with fail
  rw [rounds_succ]
  go_wp2
  go_ret
  exact Ret.of (by (repeat (first | exact grow_refl _ | refine grow_ext _ ?_ | refine grow_alloc _ ?_ | refine grow_drew ?_)))
set_option maxRecDepth 100000 in
set_option maxHeartbeats 4000000 in
theorem clone2o_c (gp c : Nat) (w : World) (h : Ones w gp) :
    Calls Tryz.prog 70 #[.slice (some ⟨gp, 0, none⟩) 2 c] w (RetOwn w 3 1 2 [.int .i64 1, .int .i64 1]) := by
  have HB := Lib.hid h
  clear h
  have he := fun (w : World) (a : Option Addr) (n c : Nat) => Lib.run_eql_slice_nil (P := Tryz.prog) w 49 3 a n c 0 0 Tryz.underlying49
  go_enter Tryz.func70, Tryz.ntmps70
  go_wp2_with (at_builtin; refine app_any rfl _ _ 49 rfl 3 (.int .i64 0) 1 8 Tryz.underlying49 info_int rfl (by decide) w _ 0 [] _ rfl (World.ownsRow_made w #[] 0 (Nat.le_refl _) (by decide) (by simp)) (some ⟨gp, 0, none⟩) 2 c [.int .i64 1, .int .i64 1] rfl rfl (fun h => by cases h) ?_ (by simp [Value.oneCell']) (by decide) (by decide) ?_ ?_; (intro a' ha j q hj; cases ha; have hb := HB.out.below (grow_alloc (.cells #[] 3) (Below.refl _ w)); match j, hj with | 0, hj => exact hb.o0.trans hj | 1, hj => exact hb.o1.trans hj | (j + 2), hj => simp at hj); ((repeat (first | exact grow_refl _ | refine grow_ext _ ?_ | refine grow_alloc _ ?_ | refine grow_drew ?_))); intro v1 x1 hown _)
  go_ret
  exact ⟨_, rfl, hown, ⟨_, rfl⟩⟩
def RetP (w : World) (e : Ending) (W : World) : Prop := ∃ a : Option Addr, ∃ n c : Nat, e = .returned (.slice a n c) ∧ ∃ x, W = ext w x
/-- The best two lengths, cell by cell. -/
structure BestAt (w : World) (bb ga ca gb cc : Nat) : Prop where
  c0 : w.cell? ⟨bb, 0, none⟩ = some (.int .i64 0)
  c1 : w.cell? ⟨bb, 1, none⟩ = some (.int .i64 0)
  c2 : w.cell? ⟨bb, 2, none⟩ = some (.slice (some ⟨ga, 0, none⟩) 2 ca)
  c3 : w.cell? ⟨bb, 3, none⟩ = some (.int .i64 0)
  c4 : w.cell? ⟨bb, 4, none⟩ = some (.int .i64 0)
  c5 : w.cell? ⟨bb, 5, none⟩ = some (.slice (some ⟨gb, 0, none⟩) 2 cc)
  pa : Ones w ga
  pb : Ones w gb
theorem BestAt.below {w W : World} {bb ga ca gb cc : Nat} (h : BestAt w bb ga ca gb cc) (hb : Below w.heap.size w W) : BestAt W bb ga ca gb cc := by
  have h1 := h.pa.below hb
  have h2 := h.pb.below hb
  obtain ⟨x, rfl⟩ := ext_of hb
  exact ⟨cell_ext_some h.c0 x, cell_ext_some h.c1 x, cell_ext_some h.c2 x, cell_ext_some h.c3 x, cell_ext_some h.c4 x, cell_ext_some h.c5 x, h1, h2⟩
set_option maxRecDepth 100000 in
set_option maxHeartbeats 8000000 in
theorem patterns_c (bb cb ga ca gb cc : Nat) (w : World) (h : BestAt w bb ga ca gb cc) : Calls Tryz.prog 44 #[.slice (some ⟨bb, 0, none⟩) 2 cb] w (RetP w) := by
  have c0 := h.c0
  have c1 := h.c1
  have c2 := h.c2
  have HB0 := Lib.hid h
  clear h
  go_enter Tryz.func44, Tryz.ntmps44
  go_wp2_with fail
  refine wp_loop_rounds 3 ?_
  rw [rounds_succ]
  go_upto_region 6 with fail
  refine world_mask (fun W => Below w.heap.size w W ∧ Blk W w.heap.size #[.int .i64 0, .int .i64 0, .slice (some ⟨ga, 0, none⟩) 2 ca] 140) _ ⟨by (repeat (first | exact grow_refl _ | refine grow_ext _ ?_ | refine grow_alloc _ ?_ | refine grow_drew ?_)), Blk.new _ _ _⟩ ?_
  clear c0 c1 c2
  generalize hgx : w.heap.size = gx
  rintro W1 ⟨hb1, hx⟩
  rw [← hgx] at hb1
  have e0 : W1.cell? ⟨gx, 0, none⟩ = some (.int .i64 0) := hx.cell 0
  have e2 : W1.cell? ⟨gx, 2, none⟩ = some (.slice (some ⟨ga, 0, none⟩) 2 ca) := hx.cell 2
  have HB1 := Lib.hid hb1
  have HA1 := Lib.hid (HB0.out.below hb1)
  clear hb1 hx hgx
  refine wp_region_grows (by kernel_rfl) (by kernel_rfl) ?_
  repeat (go_big_quiet_step (fail))
  refine wpQuiet_nil ?_; rintro _ ⟨xq, rfl⟩
  go_wp2_with fail
  go_region_held3 (fun w' => w'.cell? ⟨gx, 0, none⟩ = some (.int .i64 0) ∧ w'.cell? ⟨gx, 2, none⟩ = some (.slice (some ⟨ga, 0, none⟩) 2 ca)) (simp [go_sem, *])
    (first
      | (go_at_call 70; refine Calls.mono (clone2o_c ga ca _ (HA1.out.pa.below (by (repeat (first | exact grow_refl _ | refine grow_ext _ ?_ | refine grow_alloc _ ?_ | refine grow_drew ?_))))) ?_; rintro e w' ⟨u1, rfl, hown, x1, rfl⟩; obtain ⟨gu, cu, curu, rfl, -, hbu, hcu1, hcu2, hxu⟩ := own_blk hown (by decide); simp only [ext_drew] at hbu; have HBU := Lib.hid hbu; have HXU := Lib.hid hxu; clear hown hbu hxu)
      | (refine step_app_own rfl _ _ 64 rfl 145 (.agg #[.int .i64 0, .slice none 0 0, .int .i64 0]) 3 40 Tryz.underlying64 info_pat rfl (by decide) W1 _ 0 [] _ rfl (World.ownsRow_nil _ _ _ _) _ 1 1 [.int .i64 0, .slice (some ⟨gu, 0, none⟩) 2 cu, .int .i64 1] rfl rfl ?_ (by simp [Value.oneCell']) (by decide) (by decide) ?_ ?_; (first | (refine cells_new ?_ _ _ _ rfl; simp [size_ext]) | (refine cells_newX ?_ _ _ _ rfl; first | rfl | simp)); ((repeat (first | exact grow_refl _ | refine grow_ext _ ?_ | refine grow_alloc _ ?_ | refine grow_drew ?_))); intro v' x2 hown hgrow; have hbu2 := Blk.grown (HBU.out.below (by (repeat (first | exact grow_refl _ | refine grow_ext _ ?_ | refine grow_alloc _ ?_ | refine grow_drew ?_)))) hgrow (show some gu ≠ none from fun e => by cases e); obtain ⟨gv, cv, curv, rfl, hgv, hbv, hcv1, hcv2, hxv⟩ := own_blk hown (by decide); have HGV := Lib.hid hgv; clear hgv; have HBU2 := Lib.hid hbu2; have HBV := Lib.hid hbv; have HXV := Lib.hid hxv; clear hown hgrow hbu2 hbv hxv))
  go_wp2_with fail
  rw [rounds_succ]
  clear e0 e2
  have d3 := (HB0.out.below (W := ext W1 x2) (by (repeat (first | exact grow_refl _ | exact HB1.out | refine grow_ext _ ?_ | refine grow_alloc _ ?_ | refine grow_drew ?_)))).c3
  have d4 := (HB0.out.below (W := ext W1 x2) (by (repeat (first | exact grow_refl _ | exact HB1.out | refine grow_ext _ ?_ | refine grow_alloc _ ?_ | refine grow_drew ?_)))).c4
  have d5 := (HB0.out.below (W := ext W1 x2) (by (repeat (first | exact grow_refl _ | exact HB1.out | refine grow_ext _ ?_ | refine grow_alloc _ ?_ | refine grow_drew ?_)))).c5
  go_upto_region 6 with fail
  refine world_mask (fun W => Below w.heap.size w W ∧ Blk W (W1.heap.size + x2.heap.size) #[.int .i64 0, .int .i64 0, .slice (some ⟨gb, 0, none⟩) 2 cc] 140 ∧ Blk W gv curv 145 ∧ Blk W gu curu 3 ∧ w.heap.size ≤ gv) _ ⟨by (repeat (first | exact grow_refl _ | exact HB1.out | refine grow_ext _ ?_ | refine grow_alloc _ ?_ | refine grow_drew ?_)), Blk.new' (by rw [size_ext]) _ _, HBV.out.alloc _, HBU2.out.alloc _, Nat.le_trans HB1.out.size HGV.out⟩ ?_
  clear d3 d4 d5
  generalize W1.heap.size + x2.heap.size = gy
  rintro W3 ⟨hb3, hy, hv, hu, hgv⟩
  have y0 : W3.cell? ⟨gy, 0, none⟩ = some (.int .i64 0) := hy.cell 0
  have y2 : W3.cell? ⟨gy, 2, none⟩ = some (.slice (some ⟨gb, 0, none⟩) 2 cc) := hy.cell 2
  have v0 : W3.cell? ⟨gv, 0, none⟩ = some (.int .i64 0) := (hv.cell 0).trans (HXV.out 0 _ rfl)
  have v1 : W3.cell? ⟨gv, 1, none⟩ = some (.slice (some ⟨gu, 0, none⟩) 2 cu) := (hv.cell 1).trans (HXV.out 1 _ rfl)
  have v2 : W3.cell? ⟨gv, 2, none⟩ = some (.int .i64 1) := (hv.cell 2).trans (HXV.out 2 _ rfl)
  have vf : W3.frozen? ⟨gv, 2, none⟩ = false := hv.frozen 2
  have HU3 := Lib.hid (show Ones W3 gu from ⟨(hu.cell 0).trans (HXU.out 0 _ rfl), (hu.cell 1).trans (HXU.out 1 _ rfl)⟩)
  have HP3 := Lib.hid (HB0.out.below hb3).pb
  have HE := Lib.hid (fun x : World => equal2_c gu cu gb cc (ext W3 x) (HU3.out.below (below_ext _ x)) (HP3.out.below (below_ext _ x)))
  have HB3 := Lib.hid hb3
  have HGV3 := Lib.hid hgv
  clear hb3 hy hv hu hgv HBU HXU HBU2 HBV HXV HB1 HA1 HGV HU3 HP3
  refine wp_region_grows (by kernel_rfl) (by kernel_rfl) ?_
  repeat (go_big_quiet_step ((go_at_call 72; exact Calls.quiet_ext (HE.out _))))
  refine wpQuiet_nil ?_; rintro _ ⟨xq, rfl⟩
  go_wp2_with fail
  rw [rounds_succ]
  go_wp2
  go_ret
  exact ⟨_, _, _, rfl, ext_of ((HB3.out.setCell HGV3.out _).trans (Below.mono (below_ext _ _) (by simp only [World.setCell, Array.size_modify]; exact HB3.out.size)))⟩
end Go.Proofs.YtmhhohancconaaaGreat

