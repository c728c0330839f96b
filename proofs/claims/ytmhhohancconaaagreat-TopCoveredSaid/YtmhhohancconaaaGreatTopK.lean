/- VisI, TopD in one text. -/
import Derived.Test.YtmhhohancconaaaGreatVisK2
import Derived.Test.YtmhhohancconaaaGreatSureK
import Derived.Test.YtmhhohancconaaaGreatTopB
namespace Go.Proofs.YtmhhohancconaaaGreat
open Go Go.RowKit
set_option maxRecDepth 20000

theorem BRow.at {w W : World} {best : Value} (h : BRow w W best) : ∃ bb cb ga ca gb cc, best = .slice (some ⟨bb, 0, none⟩) 2 cb ∧ BestAt W bb ga ca gb cc := by
  obtain ⟨us, h1, h2, h3⟩ := h
  obtain ⟨u0, u1, rfl⟩ : ∃ u0 u1, us = [u0, u1] := by
    match us, h1 with
    | [a, b], _ => exact ⟨a, b, rfl⟩
  obtain ⟨ga, ca, cura, rfl, -, ha, -, -, hxa⟩ := own_blk (h3 u0 (by simp)) (by decide)
  obtain ⟨gb, cc, curb, rfl, -, hb, -, -, hxb⟩ := own_blk (h3 u1 (by simp)) (by decide)
  obtain ⟨bb, cb, cur, rfl, -, hbb, -, -, hx⟩ := own_blk h2 (by decide)
  exact ⟨bb, cb, ga, ca, gb, cc, rfl, (hbb.cell 0).trans (hx 0 _ rfl), (hbb.cell 1).trans (hx 1 _ rfl), (hbb.cell 2).trans (hx 2 _ rfl), (hbb.cell 3).trans (hx 3 _ rfl), (hbb.cell 4).trans (hx 4 _ rfl), (hbb.cell 5).trans (hx 5 _ rfl),
    ⟨(ha.cell 0).trans (hxa 0 _ rfl), (ha.cell 1).trans (hxa 1 _ rfl)⟩, ⟨(hb.cell 0).trans (hxb 0 _ rfl), (hb.cell 1).trans (hxb 1 _ rfl)⟩⟩
set_option maxRecDepth 100000 in
set_option maxHeartbeats 8000000 in
theorem leastS (g : Nat) (w : World) (h : PcsB w g) : Calls Tryz.prog 19 #[.int .i64 100, .slice (some ⟨g, 0, none⟩) 2 2] w (RetLeast w) := by
  have HP := Lib.hid h
  clear h
  go_enter Tryz.func19, Tryz.ntmps19
  go_upto_region 5 with (go_at_call 39; refine (orderS_c g _ (Blk.below HP.out (by (repeat (first | exact grow_refl _ | refine grow_ext _ ?_ | refine grow_alloc _ ?_ | refine grow_drew ?_))))).mono ?_; rintro e w' ⟨rfl, x0, rfl⟩)
  refine world_mask (fun W => Below w.heap.size w W ∧ W.cell? ⟨w.heap.size, 0, none⟩ = some (.int .i64 100)) _ ⟨by (repeat (first | exact grow_refl _ | refine grow_ext _ ?_ | refine grow_alloc _ ?_ | refine grow_drew ?_)), by simp [go_sem]⟩ ?_
  generalize hgL : w.heap.size = gL
  rintro W1 ⟨hb1, l0⟩
  rw [← hgL] at hb1
  have HB1 := Lib.hid hb1
  have HP1 := Lib.hid (Blk.below HP.out hb1)
  have hC : Calls Tryz.prog 40 #[.slice (some ⟨g, 0, none⟩) 2 2, .func (.func 41) #[] #[.pointer (some ⟨gL, 0, none⟩)]] W1 (Ret W1 (.bool false)) := containsFunc_cPc 41 enters_least1 #[.pointer (some ⟨gL, 0, none⟩)] (fun _ => false) pcsS _ W1 (PcsB.pcs HP1.out) (fun b x hb => least1_c b hb gL _ (cell_ext_some l0 x))
  have HC := Lib.hid hC
  have p0 : W1.cell? ⟨g, 0, none⟩ = some (.int .i64 60) := Blk.cell HP1.out 0
  have p1 : W1.cell? ⟨g, 1, none⟩ = some (.int .i64 2) := Blk.cell HP1.out 1
  have p2 : W1.cell? ⟨g, 2, none⟩ = some (.int .i64 40) := Blk.cell HP1.out 2
  have p3 : W1.cell? ⟨g, 3, none⟩ = some (.int .i64 2) := Blk.cell HP1.out 3
  clear hC hb1 hgL
  go_wp2_with fail
  go_at_call 40; refine (HC.out).mono ?_; rintro e w' ⟨rfl, x1, rfl⟩
  clear HC
  go_wp2_with fail
  refine wp_loop_rounds 3 ?_
  rw [rounds_succ]
  go_wp2_with fail
  rw [rounds_succ]
  go_wp2_with fail
  rw [rounds_succ]
  go_upto_region 17 with fail
  refine world_mask (fun W => Below w.heap.size w W ∧ W.cell? ⟨gL, 0, none⟩ = some (.int .i64 100)) _ ⟨by (repeat (first | exact grow_refl _ | exact HB1.out | refine grow_ext _ ?_ | refine grow_alloc _ ?_ | refine grow_drew ?_)), by simp [go_sem, l0]⟩ ?_
  clear l0 p0 p1 p2 p3
  rintro W2 ⟨hb2, l0⟩
  have HB2 := Lib.hid hb2
  have HP2 := Lib.hid (Blk.below HP.out hb2)
  clear hb2 HB1 HP1
  go_region_held3 (fun w' => w'.cell? ⟨gL, 0, none⟩ = some (.int .i64 100)) (simp [go_sem, *])
    ((go_at_call 42; refine Calls.mono (longestS_c g _ (Blk.below HP2.out (by (repeat (first | exact grow_refl _ | refine grow_ext _ ?_ | refine grow_alloc _ ?_ | refine grow_drew ?_))))) ?_; rintro e w' ⟨vO, rfl, hown, x2, rfl⟩; obtain ⟨gO, cO, curO, rfl, -, hbO, hcO1, hcO2, hxO⟩ := own_blk hown (by decide); simp only [ext_drew] at hbO; have HBO := Lib.hid hbO; have HXO := Lib.hid hxO; clear hown hbO hxO))
  go_upto_region 18 with fail
  refine world_mask (fun W => Below w.heap.size w W ∧ SrchAt W (W2.heap.size + x2.heap.size) g gO cO (.slice none 0 0) ∧ w.heap.size ≤ W2.heap.size + x2.heap.size) _ ⟨by (repeat (first | exact grow_refl _ | exact HB2.out | refine grow_ext _ ?_ | refine grow_alloc _ ?_ | refine grow_drew ?_)), ⟨Blk.new' (by rw [size_ext]) _ _, Blk.below HP2.out (by (repeat (first | exact grow_refl _ | refine grow_ext _ ?_ | refine grow_alloc _ ?_ | refine grow_drew ?_))), ((HBO.out.alloc _).cell 0).trans (HXO.out 0 _ rfl), ((HBO.out.alloc _).cell 1).trans (HXO.out 1 _ rfl), ((HBO.out.alloc _).cell 2).trans (HXO.out 2 _ rfl), ((HBO.out.alloc _).cell 3).trans (HXO.out 3 _ rfl)⟩, by have := HB2.out.size; omega⟩ ?_
  clear l0
  generalize W2.heap.size + x2.heap.size = gS
  rintro W3 ⟨hb3, hs3, hgS⟩
  have HB3 := Lib.hid hb3
  have HS3 := Lib.hid hs3
  have HGS := Lib.hid hgS
  clear hb3 hs3 hgS HB2 HP2 HBO HXO
  go_upto_region 19 with (go_at_call 43; refine (v0_c gS g gO cO _ HS3.out).mono ?_; rintro e W4 ⟨⟨vq, rfl⟩, hret⟩; obtain ⟨hg4, old, us, h1, hs4, h3, h4⟩ := hret; obtain ⟨bb, cb, ga, ca, gb, cc, rfl, hbest⟩ := BRow.at (w := W3) ⟨us, h1, h3, h4⟩; have b3 : W4.cell? ⟨gS, 3, none⟩ = some (.slice (some ⟨bb, 0, none⟩) 2 cb) := hs4.blk.cell 3; have HBE := Lib.hid hbest; have HB4 := Lib.hid (show Below w.heap.size w W4 from HB3.out.grown hg4 HB3.out.size (fun k e => by cases e; exact HGS.out)); clear hg4 h1 hs4 h3 h4 hbest)
  go_region_held3 (fun w' => w'.cell? ⟨gS, 3, none⟩ = some (.slice (some ⟨bb, 0, none⟩) 2 cb)) (simp [go_sem, *])
    ((go_at_call 44; refine Calls.mono (patterns_c bb cb ga ca gb cc _ (HBE.out.below (by (repeat (first | exact grow_refl _ | refine grow_ext _ ?_ | refine grow_alloc _ ?_ | refine grow_drew ?_))))) ?_; rintro e w' ⟨aP, nP, cP, rfl, x5, rfl⟩))
  go_wp2_with fail
  refine bodyPost_ret (v := .tuple #[.int .i64 2, .slice aP nP cP, .int .i64 0]) (by simp [results, Tryz.results19, go_sem]) rfl ?_
  exact ⟨_, _, _, rfl, ext_of (by (repeat (first | exact grow_refl _ | exact HB4.out | refine grow_ext _ ?_ | refine grow_alloc _ ?_ | refine grow_drew ?_)))⟩
end Go.Proofs.YtmhhohancconaaaGreat

namespace Go.Proofs.YtmhhohancconaaaGreat
open Go.RowKit
set_option maxRecDepth 20000

theorem lawTopCovered_c (q : Mb) (l : List Br) (v : Value) (rs : List Rn) (u : Value) (qi qk al dx dy dz : Int) (hqi : 0 ≤ qi ∧ qi ≤ 255) (hqk : 0 ≤ qk ∧ qk ≤ 255) (hal : 0 ≤ al ∧ al ≤ 4294967295) (hdx : -32768 ≤ dx ∧ dx ≤ 32767) (hdy : -32768 ≤ dy ∧ dy ≤ 32767) (hdz : -32768 ≤ dz ∧ dz ≤ 32767) (w : World) (hq : MbAt w q) (hl : Bars w v l) (hr : Runs w u rs) :
    Calls Tryz.prog 3 #[(.agg #[.string q.name, q.u, q.t, .int .i64 q.cover, .int .i64 q.agg, .int .i64 q.poker]), v, u, .int .u8 qi, .int .u8 qk, .int .u32 al, .int .i16 dx, .int .i16 dy, .int .i16 dz] w (Ret w (.bool true)) :=
  lawTC_all q l rs v u qi qk al dx dy dz (fun w => sureAwake_of leastS w) hqi hqk hal hdx hdy hdz w hq hl hr

end Go.Proofs.YtmhhohancconaaaGreat

