/- CovP, CovR, CovS, RefV in one text. -/
import Derived.Test.YtkjljneehgmmaaaGreatAaK7
import Derived.Test.YtkjljneehgmmaaaGreatAaK6
import Derived.Test.YtkjljneehgmmaaaGreatLaidK4
import Derived.Deep.DeepCutAuto
import Derived.Test.YtkjljneehgmmaaaGreatAaK9
namespace Go.Proofs.YtkjljneehgmmaaaGreat
open Go.RowKit
set_option maxRecDepth 20000

theorem coverC_in (l m : List Bx) (b : Bx) : -1 ≤ coverC l m b ∧ coverC l m b ≤ 2097152 := topC_in _
def coverL (q : Mb) (d : Int) (L : List Bx) : Int := L.foldl (fun a b => min a (coverC q.l q.m (coreX d b))) 2097152
theorem coverL_take (q : Mb) (d : Int) {L : List Bx} {k : Nat} (h : k < L.length) : coverL q d (L.take (k + 1)) = min (coverL q d (L.take k)) (coverC q.l q.m (coreX d L[k])) := by
 unfold coverL
 rw [List.take_succ_eq_append_getElem h, List.foldl_append]; rfl
theorem coverL_in (q : Mb) (d : Int) (L : List Bx) : -1 ≤ coverL q d L ∧ coverL q d L ≤ 2097152 := by
 have key : ∀ a : Int, -1 ≤ a → -1 ≤ L.foldl (fun a b => min a (coverC q.l q.m (coreX d b))) a ∧ L.foldl (fun a b => min a (coverC q.l q.m (coreX d b))) a ≤ a := by
  induction L with
  | nil => intro a ha; exact ⟨ha, Int.le_refl _⟩
  | cons b L ih =>
    intro a ha
    have h1 := coverC_in q.l q.m (coreX d b)
    have h2 := ih (min a (coverC q.l q.m (coreX d b))) (by omega)
    rw [List.foldl_cons]
    omega
 exact key _ (by decide)
theorem shape_legs {b : Br} (h : shapeB b = true) : 1 ≤ (legsC b.code).length := by
 obtain ⟨h1, _, _, _, _, _⟩ := shape_facts h
 obtain ⟨mark, size, count, code, dims, dv⟩ := b
 simp only at h1 ⊢
 clear h
 rcases legs_cases code with rfl | rfl | rfl | rfl | rfl | rfl | rfl | rfl | ⟨_, he⟩
 all_goals first | decide | (unfold dimsR at h1; rw [he] at h1; exact absurd h1 (by decide))
theorem legsI_some {l : List Br} {rs : List Rn} (h : laidB l rs = true) {i : Int} (h0 : 0 ≤ i) (hi : i < countS rs) : 1 ≤ (legsI l rs i).length := by
 obtain ⟨r, j, e, hm, _, _⟩ := placeR_some (laidB_iff.1 h).2.2.1 h0 hi
 have hb := (laidB_iff.1 h).2.2.1 r hm
 rw [runB_eq] at hb
 simp only [right1, Bool.and_eq_true, decide_eq_true_iff] at hb
 have hs := shape_legs (schedB_shape (laidB_iff.1 h).1 _ (bar_mem hb.1.1))
 unfold legsI
 rw [legsP_len, show pathI l rs i = laidL (barOf l r.mark) r j by unfold pathI; rw [e]]
 unfold laidL pathL
 rw [List.length_map, ptsK_length]
 omega
theorem legsI_most (l : List Br) (rs : List Rn) (i : Int) : (legsI l rs i).length ≤ 6 := by
 have h2 := pathI_len l rs i
 have h3 : (legsI l rs i).length = (pathI l rs i).length - 1 := legsP_len _
 omega

def barI (q : Mb) (l : List Br) (rs : List Rn) (i : Int) : Int := coverL q (sizeI l rs i) (legsI l rs i)
theorem barI_in (q : Mb) (l : List Br) (rs : List Rn) (i : Int) : -1 ≤ barI q l rs i ∧ barI q l rs i ≤ 2097152 := coverL_in _ _ _
def coverTo (q : Mb) (l : List Br) (rs : List Rn) (n : Nat) : List ByteArray := (List.range n).filterMap fun i : Nat => if barI q l rs i < q.cover then some (markI rs i) else none
theorem coverTo_succ (q : Mb) (l : List Br) (rs : List Rn) (n : Nat) : coverTo q l rs (n + 1) = coverTo q l rs n ++ (if barI q l rs n < q.cover then [markI rs n] else []) := by
 unfold coverTo
 rw [List.range_succ, List.filterMap_append]
 by_cases h : barI q l rs n < q.cover <;> simp [h]
theorem coverTo_len (q : Mb) (l : List Br) (rs : List Rn) (n : Nat) : (coverTo q l rs n).length ≤ n := by
 have := List.length_filterMap_le (fun i : Nat => if barI q l rs i < q.cover then some (markI rs i) else none) (List.range n)
 rw [List.length_range] at this
 exact this
def barE (q : Mb) (l : List Br) (rs : List Rn) (i : Int) : Int × ByteArray × Int :=
 if laidB l rs = true then (if 0 ≤ i ∧ i < countS rs then (barI q l rs i, markI rs i, 0) else (0, ⟨#[]⟩, 2)) else (0, ⟨#[]⟩, 1)
theorem placeR_none {l : List Br} {rs : List Rn} (h : ∀ r ∈ rs, runB l r = true) {i : Int} (hi : countS rs ≤ i) : placeR rs i = none := by
 induction rs generalizing i with
 | nil => rfl
 | cons r rs ih =>
   have h1 := runB_count (h r List.mem_cons_self)
   have h2 := countS_nonneg (fun x hx => h x (List.mem_cons_of_mem _ hx))
   simp only [countS] at hi
   simp only [placeR]
   rw [if_neg (by omega)]
   exact ih (fun x hx => h x (List.mem_cons_of_mem _ hx)) (by omega)
theorem markE_out {l : List Br} {rs : List Rn} (hv : laidB l rs = true) {i : Int} (h : ¬ (0 ≤ i ∧ i < countS rs)) : markE l rs i = (⟨#[]⟩, 2) := by
 unfold markE
 rw [if_pos hv]
 by_cases h0 : i < 0
 ·rw [if_pos h0]
 ·rw [if_neg h0, placeR_none (laidB_iff.1 hv).2.2.1 (by omega)]
theorem markE_bad {l : List Br} {rs : List Rn} (hv : laidB l rs = false) (i : Int) : markE l rs i = (⟨#[]⟩, 1) := by
 unfold markE; rw [hv]; rfl

set_option maxHeartbeats 4000000
set_option maxRecDepth 100000

def RetSizes (w : World) (l : List Br) (e : Ending) (W : World) : Prop := ∃ gM, e = .returned (.map (some gM)) ∧ SzMap sizeF W gM l.length l ∧ ∃ x, W = ext w x
theorem sizes18_c (l : List Br) (v : Value) (hs : schedB l = true) (w : World) (hl : Bars w v l) : Calls Tryz.prog 199 #[v] w (RetSizes w l) := by
 obtain ⟨va, vc, rfl, h2, h3, h4⟩ := hl.shape
 have H4 := hd0 h4
 have HS := hd0 (schedB_shape hs)
 have hlen60 : l.length ≤ 60 := by
  unfold schedB at hs
  simp only [Bool.and_eq_true, decide_eq_true_iff] at hs
  exact hs.1
 have hmm := @run_makeMap Tryz.prog
 clear hl h4 hs
 go_enter Tryz.func199, Tryz.ntmps199
 go_wp2_with fail
 obtain ⟨gM, hgM⟩ : ∃ g, g = w.heap.size := ⟨_, rfl⟩
 rw [← hgM]
 refine world_mask (fun W => Below w.heap.size w W ∧ SzMap sizeF W gM 0 [] ∧ w.heap.size ≤ gM) _ ⟨gro, by rw [hgM]; exact SzMap.made sizeF w, by omega⟩ ?_
 clear hgM hmm
 rintro W0 ⟨hb0, hm0, hgM⟩
 go_loopw [9] (fun i wr => ∃ k : Nat, k ≤ l.length ∧ i = .int .i64 k ∧ Below w.heap.size w wr ∧ SzMap sizeF wr gM k (l.take k)) (fun i _ => l.length - (intOf i).toNat)
 case atStart => exact ⟨0, by omega, rfl, hb0, hm0⟩
 case round =>
  clear hb0 hm0
  obtain ⟨k, hk, rfl, hb, hm⟩ := hrel
  have HB := hd0 hb
  have HM := hd0 hm
  by_cases hlt : k < l.length
  ·obtain ⟨hok, b0, off, rfl, hbr⟩ := H4.out k hlt
   have q1 : (0 : Int) ≤ (k : Int) := by omega
   have q2 : (k : Int) < (l.length : Int) := by omega
   have hsz := (shape_facts (HS.out _ (List.getElem_mem hlt))).2.2.1
   have htk : l.take (k + 1) = l.take k ++ [l[k]] := List.take_succ_eq_append_getElem hlt
   obtain ⟨b, hbl⟩ : ∃ b, l[k] = b := ⟨_, rfl⟩
   rw [hbl] at hok hbr hsz htk
   obtain ⟨y, ey⟩ := ext_of hb
   have hbr2 := hbr.ext y
   rw [← ey] at hbr2
   obtain ⟨c0, c1, c2, c3, c4⟩ := hbr2
   obtain ⟨ad, cd, ev, _, _, _⟩ := hok.dims
   have hns := hok.mark
   obtain ⟨mark, size, count, code, dims, dv⟩ := b
   simp only at ev c0 c1 c2 c3 c4 hsz hns
   subst ev
   have HTK := hd0 htk
   have hwf := size_wf hsz
   have HSI := hd0 hsz
   obtain ⟨D, m1, m2, m3⟩ := hm
   have M1 := hd0 (show (wr.alloc (.cells #[.string mark, .int .i64 size, .int .i64 count, .int .i64 code, .slice ad dims.length cd] 81)).ownsMap Tryz.prog 9 (plainElem Tryz.prog 3) gM k D from m1.kept (row := none) (World.grownBy_alloc _ _ none) (by simp))
   have M2 := hd0 m2
   have M3 := hd0 m3
   have hml := m1.lt
   clear hok hbr hsz htk hbl ey hb m1 m2 m3
   go_wp2_with (at_mapUpdate; refine wpList_mapUpdate_own _ rfl _ _ _ 215 rfl 9 3 marks_law Tryz.underlying215 _ gM k D rfl M1.out (by unfold maxLen; omega) _ _ (.string mark.data.toList) rfl rfl (WideMaps.keyOf_string_mk Tryz.underlying9 (by unfold maxLen; exact hns)) (.lit (.int .i64 size)) [] (plainElem_int Tryz.underlying3 hwf) ?_; intro w2 hown2 hgrow2; have HG2 := hd0 hgrow2; have HN2 := hd0 (SzMap.put (g := sizeF) (f := ⟨mark, size, count, code, dims, .slice ad dims.length cd⟩) M2.out M3.out hown2); clear hgrow2 hown2)
   go_roundw
   case rel => exact ⟨k + 1, by omega, by go_num, (HB.out.alloc HB.out.size _).grown HG2.out (by have := HB.out.size; simp only [World.size_alloc]; omega) (fun j e => by cases e; exact hgM), by rw [HTK.out]; exact HN2.out⟩
   case measure => simp [intOf]; omega
  ·obtain rfl : k = l.length := by omega
   rw [List.take_length] at HM
   clear hb hm
   go_wp2
   go_ret
   exact ⟨_, rfl, HM.out, ext_of HB.out⟩

theorem mark_small {l : List Br} {rs : List Rn} {u : Value} {w : World} (hv : laidB l rs = true) (hr : Runs w u rs) {i : Int} (h0 : 0 ≤ i) (hi : i < countS rs) : (markI rs i).size ≤ 9223372036854775807 := by
 obtain ⟨a', cap', e', _, _, h6⟩ := hr.shape
 obtain ⟨g1, g2, r0, g3, g4⟩ := mark_of hv h0 hi
 obtain ⟨j, hj, ej⟩ := List.getElem_of_mem g3
 have := (h6 j hj).1
 rw [ej, g4] at this
 exact this

theorem bar18_c (q : Mb) (l : List Br) (rs : List Rn) (v u : Value) (i : Int) (hs : solidB q.l q.m = true) (himax : i ≤ 9223372036854775807) (w : World) (hq : MbAt w q) (hl : Bars w v l) (hr : Runs w u rs) :
  Calls Tryz.prog 143 #[(.agg #[.string q.name, q.u, q.t, .int .i64 q.cover, .int .i64 q.agg, .int .i64 q.poker]), v, u, .int .i64 i] w (Ret w (.tuple #[.int .i64 (barE q l rs i).1, .string (barE q l rs i).2.1, .int .i64 (barE q l rs i).2.2])) := by
 have HQ := hd0 hq
 have HL := hd0 hl
 have HR := hd0 hr
 cases hv : laidB l rs
 ·have HMK := hd0 (fun w hl hr => mark_v l rs v u i _ _ (markE_bad hv i) himax w hl hr)
  rw [show barE q l rs i = (0, ⟨#[]⟩, 1) by unfold barE; rw [hv]; rfl]
  clear hq hl hr hv hs
  go_enter Tryz.func143, Tryz.ntmps143
  go_wp2_with fail
  go_at_call 64; refine (HMK.out _ (HL.out.below gro) (HR.out.below gro)).mono ?_; rintro e w' ⟨rfl, x1, rfl⟩
  go_wp2
  refine bodyPost_ret (v := .tuple #[.int .i64 0, .string ⟨#[]⟩, .int .i64 1]) (by simp [results, Tryz.results143, go_sem]) rfl ?_
  exact Ret.of gro
 by_cases hi : 0 ≤ i ∧ i < countS rs
 case neg =>
  have HMK := hd0 (fun w hl hr => mark_v l rs v u i _ _ (markE_out hv hi) himax w hl hr)
  rw [show barE q l rs i = (0, ⟨#[]⟩, 2) by unfold barE; rw [if_pos hv, if_neg hi]]
  clear hq hl hr hv hs hi
  go_enter Tryz.func143, Tryz.ntmps143
  go_wp2_with fail
  go_at_call 64; refine (HMK.out _ (HL.out.below gro) (HR.out.below gro)).mono ?_; rintro e w' ⟨rfl, x1, rfl⟩
  go_wp2
  refine bodyPost_ret (v := .tuple #[.int .i64 0, .string ⟨#[]⟩, .int .i64 2]) (by simp [results, Tryz.results143, go_sem]) rfl ?_
  exact Ret.of gro
 obtain ⟨q1, q2⟩ := hi
 obtain ⟨g1, g2, -⟩ := mark_of hv q1 q2
 have hsz := size_of hv q1 q2
 have hms := mark_small hv hr q1 q2
 have hsd := (laidB_iff.1 hv).1
 have HMK := hd0 (fun w hl hr => mark_v l rs v u i _ _ g1 himax w hl hr)
 have HLG := hd0 (fun w hl hr => legsLaid_c l rs v u i w hl hr)
 rw [show legsE l rs i = (legsI l rs i, 0) by unfold legsE; rw [if_pos hv, if_pos ⟨q1, q2⟩]] at HLG
 have HSZ := hd0 (fun w hl => sizes18_c l v hsd w hl)
 have HLK := hd0 (show ∀ W b n, SzMap sizeF W b n l → (Instr.lookup 215 (.map (some b)) (.string (markI rs i)) false).run Tryz.prog W = .ok (.int .i64 (sizeI l rs i)) W from fun W b n h => by
  have := h.look (markI rs i) hms
  rw [szOf_find sizeF hsd g2] at this
  exact this)
 have hlv := legsI_valid hv q1 q2
 have HOF := hd0 (fun k (hk : k < (legsI l rs i).length) w hq => of_c q (sizeI l rs i) (legsI l rs i)[k] _ rfl hs (hlv _ (List.getElem_mem hk)) hsz w hq)
 have hll := legsI_most l rs i
 have HE := hd0 (show barE q l rs i = (coverL q (sizeI l rs i) (legsI l rs i), markI rs i, 0) by unfold barE; rw [if_pos hv, if_pos ⟨q1, q2⟩]; rfl)
 generalize legsI l rs i = LG at *
 generalize markI rs i = MK at *
 generalize sizeI l rs i = D at *
 clear hq hl hr hv hs hsd g1 g2 hsz hlv q1 q2
 go_enter Tryz.func143, Tryz.ntmps143
 go_wp2_with fail
 go_at_call 64; refine (HMK.out _ (HL.out.below gro) (HR.out.below gro)).mono ?_; rintro e w' ⟨rfl, x1, rfl⟩
 go_wp2_with fail
 go_at_call 65; refine (HLG.out _ (HL.out.below gro) (HR.out.below gro)).mono ?_; rintro e w' ⟨v2, rfl, hown, x2, rfl⟩
 have HBX := hd0 (Boxes.of_own hown)
 obtain ⟨a2, c2, rfl, k2, m2, -⟩ := own_shape hown
 have n2 : c2 ≤ 9223372036854775807 := m2
 clear hown
 go_wp2_with fail
 go_at_call 199; refine (HSZ.out _ (HL.out.below gro)).mono ?_; rintro e w' ⟨gM, rfl, hm, x3, rfl⟩
 have hlk := HLK.out _ _ _ hm
 clear hm
 go_wp2_with fail
 clear hlk
 refine world_mask (fun W => MbAt W q ∧ (∃ z, W = ext w z) ∧ MCells W w.heap.size q ∧ Boxes W (.slice a2 LG.length c2) LG) _ ?_ ?_
 ·exact ⟨HQ.out.below gro, ext_of gro, by simp [MCells, go_sem], HBX.out.below gro⟩
 clear HBX
 rintro W1 ⟨hq1, hbe, hm1, hb1⟩
 have HQ1 := hd0 hq1
 have HBE := hd0 hbe
 have HM1 := hd0 hm1
 have HB1 := hd0 hb1
 clear hq1 hbe hm1 hb1
 go_loopw [15, 44] (fun a i wr => ∃ k : Nat, k ≤ LG.length ∧ i = .int .i64 k ∧ a = .int .i64 (coverL q D (LG.take k)) ∧ ∃ z, wr = ext W1 z) (fun _ i _ => LG.length - (intOf i).toNat)
 case atStart => exact ⟨0, by omega, rfl, rfl, ext_of gro⟩
 case round =>
  obtain ⟨k, hk, rfl, rfl, z, rfl⟩ := hrel
  by_cases hlt : k < LG.length
  ·have q1 : (0 : Int) ≤ (k : Int) := by omega
   have q2 : (k : Int) < (LG.length : Int) := by omega
   obtain ⟨a', cap', e', -, -, h5⟩ := HB1.out
   cases e'
   obtain ⟨b0, o0, rfl, hbx⟩ := h5 k hlt
   obtain ⟨m0, m1, m2, m3, m4, m5⟩ := HM1.out.ext z
   have HOK := hd0 (fun w hq => HOF.out k hlt w hq)
   have HCT := hd0 (coverL_take q D hlt)
   obtain ⟨L, hL⟩ : ∃ L, LG[k] = L := ⟨_, rfl⟩
   rw [hL] at hbx HOK HCT
   obtain ⟨c0, c1, c2, c3, c4, c5⟩ := hbx.ext z
   generalize coverL q D (LG.take k) = A at *
   generalize coverC q.l q.m (coreX D L) = C at *
   clear h5 hL hbx
   go_wp2_with fail
   go_at_call 200; refine (HOK.out _ (HQ1.out.below gro)).mono ?_; rintro e w' ⟨rfl, y1, rfl⟩
   go_wp2
   go_roundw
   case rel => exact ⟨k + 1, by omega, by go_num, by rw [HCT.out], ext_of gro⟩
   case measure => simp [intOf]; omega
  ·obtain rfl : k = LG.length := by omega
   rw [List.take_length]
   obtain ⟨zz, ezz⟩ := HBE.out
   subst ezz
   go_wp2
   rw [HE.out]
   refine bodyPost_ret (v := .tuple #[.int .i64 (coverL q D LG), .string MK, .int .i64 0]) (by simp [results, Tryz.results143, go_sem]) rfl ?_
   exact Ret.of gro

def countX (q : Mb) (l : List Br) (rs : List Rn) : Int × Int := if mbB q = true then countE l rs else (0, 1)
theorem count18_c (q : Mb) (l : List Br) (rs : List Rn) (v u : Value) (w : World) (hq : MbAt w q) (hl : Bars w v l) (hr : Runs w u rs) :
  Calls Tryz.prog 142 #[(.agg #[.string q.name, q.u, q.t, .int .i64 q.cover, .int .i64 q.agg, .int .i64 q.poker]), v, u] w (Ret w (.tuple #[.int .i64 (countX q l rs).1, .int .i64 (countX q l rs).2])) := by
 have HQ := hd0 hq
 have HL := hd0 hl
 have HR := hd0 hr
 have HM := hd0 (fun r h w hs hl hm => solidMember_v q.name q.l q.m q.u q.t q.cover q.agg q.poker r h hs w hl hm)
 have HC := hd0 (fun w hl hr => count_c l rs v u w hl hr)
 unfold countX mbB
 generalize countE l rs = E at *
 clear hq hl hr
 cases hm : memberB q.name q.l q.m q.cover q.agg q.poker
 ·have H1 := hd0 hm
  simp only [Bool.false_eq_true, if_false]
  clear hm
  go_enter Tryz.func142, Tryz.ntmps142
  go_wp2_with fail
  go_at_call 123; refine (HM.out _ H1.out _ HQ.out.name (HQ.out.boxes.below gro) (HQ.out.holes.below gro)).mono ?_; rintro e w' ⟨rfl, x1, rfl⟩
  go_wp2
  go_ret2
  exact Ret.of gro
 ·have H1 := hd0 hm
  simp only [if_true]
  clear hm
  go_enter Tryz.func142, Tryz.ntmps142
  go_wp2_with fail
  go_at_call 123; refine (HM.out _ H1.out _ HQ.out.name (HQ.out.boxes.below gro) (HQ.out.holes.below gro)).mono ?_; rintro e w' ⟨rfl, x1, rfl⟩
  go_wp2_with fail
  go_at_call 44; refine (HC.out _ (HL.out.below gro) (HR.out.below gro)).mono ?_; rintro e w' ⟨rfl, x2, rfl⟩
  go_wp2
  go_ret2
  exact Ret.of gro

set_option maxHeartbeats 4000000
set_option maxRecDepth 100000

theorem countX_ok {q : Mb} {l : List Br} {rs : List Rn} (hm : mbB q = true) (hv : laidB l rs = true) : countX q l rs = (countS rs, 0) := by
 unfold countX countE; rw [if_pos hm, if_pos hv]
theorem Check18_ok (q : Mb) (l : List Br) (rs : List Rn) (v u : Value) (hmb : mbB q = true) (hv : laidB l rs = true) (hc : countS rs ≤ 1000) (w : World) (hq : MbAt w q) (hl : Bars w v l) (hr : Runs w u rs) :
  Calls Tryz.prog 89 #[(.agg #[.string q.name, q.u, q.t, .int .i64 q.cover, .int .i64 q.agg, .int .i64 q.poker]), v, u] w (RetFds w (coverTo q l rs (countS rs).toNat) 0) := by
 have HQ := hd0 hq
 have HL := hd0 hl
 have HR := hd0 hr
 have HC := hd0 (fun w hq hl hr => count18_c q l rs v u w hq hl hr)
 rw [countX_ok hmb hv] at HC
 have hcl := count_le hv rs.length
 rw [List.take_length] at hcl
 obtain ⟨k0, _, k2⟩ := hcl
 have HB := hd0 (show ∀ k : Nat, (k : Int) < countS rs → ∀ w, MbAt w q → Bars w v l → Runs w u rs → Calls Tryz.prog 143 #[(.agg #[.string q.name, q.u, q.t, .int .i64 q.cover, .int .i64 q.agg, .int .i64 q.poker]), v, u, .int .i64 k] w (Ret w (.tuple #[.int .i64 (barI q l rs k), .string (markI rs k), .int .i64 0])) from fun k hk w hq hl hr => by
  have := bar18_c q l rs v u k (mb_solid hmb) (by omega) w hq hl hr
  rw [show barE q l rs k = (barI q l rs k, markI rs k, 0) by unfold barE; rw [if_pos hv, if_pos ⟨by omega, hk⟩]] at this
  exact this)
 have HCT := hd0 (fun n => coverTo_succ q l rs n)
 have HCL := hd0 (fun n => coverTo_len q l rs n)
 have HBI := hd0 (fun k : Nat => barI_in q l rs k)
 generalize hN : countS rs = N at *
 clear hq hl hr hmb hv hN
 go_enter Tryz.func89, Tryz.ntmps89
 go_wp2_with fail
 go_at_call 142; refine (HC.out _ (HQ.out.below gro) (HL.out.below gro) (HR.out.below gro)).mono ?_; rintro e w' ⟨rfl, x1, rfl⟩
 go_wp2_with fail
 refine world_mask (fun W => (∃ z, W = ext w z) ∧ MCells W w.heap.size q) _ ⟨ext_of gro, by simp [MCells, go_sem]⟩ ?_
 rintro W1 ⟨hbe, hm1⟩
 have HBE := hd0 (show Below w.heap.size w W1 by obtain ⟨z, rfl⟩ := hbe; exact below_ext _ _)
 have HM1 := hd0 hm1
 clear hbe hm1
 go_loopw [10, 26] (fun v i wr => ∃ k : Nat, (k : Int) ≤ N ∧ i = .int .i64 k ∧ (∃ z, wr = ext W1 z) ∧ wr.ownsRow W1.heap.size 156 2 v (coverTo q l rs k).length (fdCells (coverTo q l rs k))) (fun _ i _ => N.toNat - (intOf i).toNat)
 case atStart => exact ⟨0, by omega, rfl, ext_of (Below.refl _ _), World.ownsRow_nil _ _ _ _⟩
 case round =>
  obtain ⟨k, hk, rfl, ⟨z, rfl⟩, hown⟩ := hrel
  have HO := hd0 hown
  obtain ⟨av, cv, rfl, hv1, hv2, -⟩ := own_shape hown
  have hv3 : cv ≤ 9223372036854775807 := hv2
  have hcl := HCL.out k
  have HBZ := hd0 (show Below w.heap.size w (ext W1 z) from HBE.out.trans ((below_ext W1 z).mono HBE.out.size))
  clear hown
  by_cases hlt : (k : Int) < N
  ·have q1 : (0 : Int) ≤ (k : Int) := by omega
   obtain ⟨m0, m1, m2, m3, m4, m5⟩ := HM1.out.ext z
   have HBK := hd0 (HB.out k hlt)
   have HCS := hd0 (HCT.out k)
   have hbi := HBI.out k
   generalize coverTo q l rs k = CT at *
   generalize barI q l rs k = C at *
   generalize markI rs k = MK at *
   go_wp2_with fail
   go_at_call 143; refine (HBK.out _ (HQ.out.below HBZ.out) (HL.out.below HBZ.out) (HR.out.below HBZ.out)).mono ?_; rintro e w' ⟨rfl, y1, rfl⟩
   have HOY := hd0 (own_ext HO.out y1)
   have HZY := hd0 (show ∃ z', ext (ext W1 z) y1 = ext W1 z' from ⟨_, ext_ext _ _ _⟩)
   have n3 := cell_ext_some m3 y1
   by_cases hlc : C < q.cover
   ·have HCS := hd0 (show coverTo q l rs (k + 1) = CT ++ [MK] by rw [HCS.out, if_pos hlc])
    clear m0 m1 m2 m4 m5
    go_wp2_with (at_builtin; refine app_own_b rfl _ _ 95 rfl 156 (.agg #[.int .i64 0, .string ⟨#[]⟩]) 2 24 Tryz.underlying95 info_fd rfl (by decide) (W1.heap.size) (.slice av CT.length cv) (CT.length) (fdCells CT) _ rfl (HOY.out.alloc _) _ 1 1 (fdCells [MK]) rfl rfl (cells_new ?_ _ _ _ rfl) (fdCells_one _) (by omega) (by decide) ?_ ?_; (first | rfl | simp [size_ext]); (simp only [World.size_alloc, size_ext]; omega); intro v' w1 hown' hgrow; have HO2 := hd0 hown'; obtain ⟨a', c', rfl, _, hc2, -⟩ := own_shape hown'; have hc3 : c' ≤ 9223372036854775807 := hc2; have HGR := hd0 hgrow; clear hown' hgrow hc2)
    go_roundw
    case rel =>
     refine ⟨k + 1, by omega, by go_num, ?_, ?_⟩
     ·obtain ⟨zz, ez⟩ := HZY.out
      have hg := HGR.out
      rw [ez] at hg
      exact ext_grown2 (grow_alloc _ (below_ext _ _)) hg (fun j e => (HOY.out.lt j e).1)
     ·rw [HCS.out]
      exact own_fds HO2.out rfl
    case measure => simp [intOf]; omega
   ·have HCS := hd0 (show coverTo q l rs (k + 1) = CT by rw [HCS.out, if_neg hlc]; simp)
    clear m0 m1 m2 m4 m5
    go_wp2
    go_roundw
    case rel => exact ⟨k + 1, by omega, by go_num, HZY.out, by rw [HCS.out]; exact HOY.out⟩
    case measure => simp [intOf]; omega
  ·obtain rfl : k = N.toNat := by omega
   have dn : decide ((1000 : Int) < ((coverTo q l rs N.toNat).length : Int)) = false := by simp; omega
   go_wp2
   go_ret2
   exact ⟨_, rfl, own_mono HO.out HBE.out.size, ext_of HBZ.out⟩

set_option maxHeartbeats 4000000
set_option maxRecDepth 100000

theorem run_bar_size' (mark : ByteArray) (size count code : Int) (ad : Option Addr) (n cd : Nat) (w : World) :
  (Instr.field 81 (.agg #[.string mark, .int .i64 size, .int .i64 count, .int .i64 code, .slice ad n cd]) 1).run Tryz.prog w = .ok (.int .i64 size) w := by kernel_rfl
theorem run_bar_mark' (mark : ByteArray) (size count code : Int) (ad : Option Addr) (n cd : Nat) (w : World) :
  (Instr.field 81 (.agg #[.string mark, .int .i64 size, .int .i64 count, .int .i64 code, .slice ad n cd]) 0).run Tryz.prog w = .ok (.string mark) w := by kernel_rfl
attribute [local go_sem] run_bar_size' run_bar_mark'

end Go.Proofs.YtkjljneehgmmaaaGreat

