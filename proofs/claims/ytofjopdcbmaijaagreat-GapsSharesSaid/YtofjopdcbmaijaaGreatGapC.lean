/- The cuts at a place: gaps.cuts. -/
import Derived.Test.YtofjopdcbmaijaaGreatGapK1
import Derived.Deep.DeepCutAuto
namespace Go.Proofs.YtofjopdcbmaijaaGreat
open Go.RowKit
set_option maxRecDepth 20000

def RetCts (w : World) (l : List Ct) (err : Int) (e : Ending) (w' : World) : Prop :=
  ∃ v, e = .returned (.tuple #[v, .int .i64 err]) ∧ w'.ownsRow w.heap.size 82 8 v l.length (ctCells l) ∧ ∃ x, w' = ext w x

set_option maxRecDepth 100000 in
set_option maxHeartbeats 8000000 in
theorem cuts_ok (l : List Br) (rs : List Rn) (v u : Value) (x : Int) (hv : laidB l rs = true) (hx : inI x (-1048576) 1048576 = true) (w : World) (hl : Bars w v l) (hr : Runs w u rs) :
    Calls Tryz.prog 33 #[v, u, .int .i64 x] w (RetCts w (cutsI l rs x) 0) := by
  have HL := Lib.hid hl
  have HR := Lib.hid hr
  have HV := Lib.hid hv
  have HX := Lib.hid hx
  have HC := Lib.hid (fun w hl hr => count_c l rs v u w hl hr)
  rw [show countE l rs = (countS rs, 0) by unfold countE; rw [if_pos hv]] at HC
  have hcl := count_le hv rs.length
  rw [List.take_length] at hcl
  obtain ⟨k0, _, k2⟩ := hcl
  have HCI := Lib.hid (show cutsI l rs x = cutsTo l rs x (countS rs).toNat from rfl)
  obtain ⟨N, hN⟩ : ∃ N, countS rs = N := ⟨_, rfl⟩
  rw [hN] at HC k0 k2 HCI
  have HN := Lib.hid hN
  obtain ⟨va, vc, rfl, h2, h3, h4⟩ := hl.shape
  have H4 := Lib.hid h4
  have hlen60 : l.length ≤ 60 := by
    have := (laidB_iff.1 hv).1
    unfold schedB at this
    simp only [Bool.and_eq_true, decide_eq_true_iff] at this
    exact this.1
  have hmm := @run_makeMap Tryz.prog
  clear hl hr h4 hv hx hN
  go_enter Tryz.func33, Tryz.ntmps33
  go_wp2_with fail
  go_at_call 71; refine (HC.out _ (HL.out.below (by (repeat (first | exact grow_refl _ | refine grow_ext _ ?_ | refine grow_alloc _ ?_ | refine grow_drew ?_)))) (HR.out.below (by (repeat (first | exact grow_refl _ | refine grow_ext _ ?_ | refine grow_alloc _ ?_ | refine grow_drew ?_))))).mono ?_; rintro e w' ⟨rfl, x1, rfl⟩
  go_wp2_with fail
  go_at_call 72; refine (gplace_v _ _ HX.out _).mono ?_; rintro e w' ⟨rfl, x2, rfl⟩
  go_wp2_with fail
  obtain ⟨gM, hgM⟩ : ∃ g, g = w.heap.size + x1.heap.size + x2.heap.size := ⟨_, rfl⟩
  rw [← hgM]
  refine world_mask (fun W => Below w.heap.size w W ∧ SzMap sizeF W gM 0 [] ∧ w.heap.size ≤ gM) _ ⟨by (repeat (first | exact grow_refl _ | refine grow_ext _ ?_ | refine grow_alloc _ ?_ | refine grow_drew ?_)), ?_, by omega⟩ ?_
  · have := SzMap.made sizeF (ext (ext w x1) x2)
    rw [size_ext, size_ext, ← hgM] at this
    exact this
  clear hgM hmm
  rintro W0 ⟨hb0, hm0, hgM⟩
  go_loopw [38] (fun i wr => ∃ k : Nat, k ≤ l.length ∧ i = .int .i64 k ∧ Below w.heap.size w wr ∧ SzMap sizeF wr gM k (l.take k)) (fun i _ => l.length - (intOf i).toNat)
  case atStart => exact ⟨0, by omega, rfl, hb0, hm0⟩
  case round =>
    clear hb0 hm0
    obtain ⟨k, hk, rfl, hb, hm⟩ := hrel
    have HB := Lib.hid hb
    have HM := Lib.hid hm
    by_cases hlt : k < l.length
    · obtain ⟨hok, b0, off, rfl, hbr⟩ := H4.out k hlt
      have q1 : (0 : Int) ≤ (k : Int) := by omega
      have q2 : (k : Int) < (l.length : Int) := by omega
      have hsz := (shape_facts (schedB_shape (laidB_iff.1 HV.out).1 _ (List.getElem_mem hlt))).2.2.1
      have htk : l.take (k + 1) = l.take k ++ [l[k]] := List.take_succ_eq_append_getElem hlt
      obtain ⟨b, hbl⟩ : ∃ b, l[k] = b := ⟨_, rfl⟩
      rw [hbl] at hok hbr hsz htk
      obtain ⟨y, ey⟩ := ext_of hb
      have hbr2 := hbr.ext y
      rw [← ey] at hbr2
      obtain ⟨c0, c1, c2, c3, c4⟩ := hbr2
      obtain ⟨ad, cd, ev, _, _, _⟩ := hok.dims
      have hns := hok.mark
      obtain ⟨mark, size, count, code, dims, dv⟩ := b
      simp only at ev c0 c1 c2 c3 c4 hsz hns
      subst ev
      have HTK := Lib.hid htk
      have hwf := size_wf hsz
      have HS := Lib.hid hsz
      obtain ⟨D, m1, m2, m3⟩ := hm
      have M1 := Lib.hid (show (wr.alloc (.cells #[.string mark, .int .i64 size, .int .i64 count, .int .i64 code, .slice ad dims.length cd] 70)).ownsMap Tryz.prog 9 (plainElem Tryz.prog 3) gM k D from m1.kept (row := none) (World.grownBy_alloc _ _ none) (by simp))
      have M2 := Lib.hid m2
      have M3 := Lib.hid m3
      have hml := m1.lt
      clear hok hbr hsz htk hbl ey hb m1 m2 m3
      go_wp2_with (at_mapUpdate; refine wpList_mapUpdate_own _ rfl _ _ _ 123 rfl 9 3 marks_law Tryz.underlying123 _ gM k D rfl M1.out (by unfold maxLen; omega) _ _ (.string mark.data.toList) rfl rfl (WideMaps.keyOf_string_mk Tryz.underlying9 (by unfold maxLen; exact hns)) (.lit (.int .i64 size)) [] (plainElem_int Tryz.underlying3 hwf) ?_; intro w2 hown2 hgrow2; have HG2 := Lib.hid hgrow2; have HN2 := Lib.hid (SzMap.put (g := sizeF) (f := ⟨mark, size, count, code, dims, .slice ad dims.length cd⟩) M2.out M3.out hown2); clear hgrow2 hown2)
      go_roundw
      case rel => exact ⟨k + 1, by omega, by go_num, (HB.out.alloc HB.out.size _).grown HG2.out (by have := HB.out.size; simp only [World.size_alloc]; omega) (fun j e => by cases e; exact hgM), by rw [HTK.out]; exact HN2.out⟩
      case measure => simp [intOf]; omega
    · obtain rfl : k = l.length := by omega
      rw [List.take_length] at HM
      clear hb hm
      obtain ⟨W1, rfl⟩ : ∃ W : World, W = wr := ⟨_, rfl⟩
      go_wp2_with fail
      go_loopw [13, 49] (fun v i wr => ∃ k : Nat, (k : Int) ≤ N ∧ i = .int .i64 k ∧ (∃ y, wr = ext W1 y) ∧ wr.ownsRow W1.heap.size 82 8 v (cutsTo l rs x k).length (ctCells (cutsTo l rs x k))) (fun _ i _ => N.toNat - (intOf i).toNat)
      case atStart => exact ⟨0, by omega, rfl, ext_of (Below.refl _ _), World.ownsRow_nil _ _ _ _⟩
      case round =>
        obtain ⟨k, hk, rfl, ⟨y, rfl⟩, hown⟩ := hrel
        have HO := Lib.hid hown
        obtain ⟨av, cv, rfl, hv1, hv2, -⟩ := own_shape hown
        have hv3 : cv ≤ 9223372036854775807 := hv2
        have hB1 := HB.out.trans ((below_ext W1 y).mono HB.out.size)
        have HB1 := Lib.hid hB1
        clear hown hB1
        by_cases hlt : (k : Int) < N
        · have q1 : (0 : Int) ≤ (k : Int) := by omega
          have q2 : (k : Int) < countS rs := by rw [HN.out]; exact hlt
          obtain ⟨g1, g2, r0, g3, g4⟩ := mark_of HV.out q1 q2
          have hsz := size_of HV.out q1 q2
          have HLG := Lib.hid (fun w hl hr => legsLaid_c l rs (.slice va l.length vc) u k w hl hr)
          rw [show legsE l rs k = (legsI l rs k, 0) by unfold legsE; rw [if_pos HV.out, if_pos ⟨q1, q2⟩]] at HLG
          have HMK := Lib.hid (fun w hl hr => mark_v l rs (.slice va l.length vc) u k _ _ g1 (by omega) w hl hr)
          have hms : (markI rs k).size ≤ 9223372036854775807 := by
            obtain ⟨a', cap', e', _, _, h6⟩ := (HR.out).shape
            obtain ⟨j, hj, ej⟩ := List.getElem_of_mem g3
            have := (h6 j hj).1
            rw [ej, g4] at this
            exact this
          have hlook := fun y1 y2 => (((HM.out.ext y).ext y1).ext y2).look (markI rs k) hms
          rw [szOf_find sizeF (laidB_iff.1 HV.out).1 g2, show sizeF (barOf l (markI rs k)) = sizeI l rs k from rfl] at hlook
          have HLV := Lib.hid (legsI_valid HV.out q1 q2)
          have HCS := Lib.hid (cutsTo_succ l rs x k)
          have hca : cutsAt l rs x k = (legsI l rs k).filterMap (cutOf (sizeI l rs k) (markI rs k) x) := rfl
          rw [hca] at HCS
          have HCL := Lib.hid (cutsTo_len l rs x k)
          have hll : (legsI l rs k).length ≤ 6 := by
            have h2 := pathI_len l rs k
            have h3 : (legsI l rs k).length = (pathI l rs k).length - 1 := legsP_len _
            omega
          have HRD := Lib.hid (fun w => Round_c (sizeI l rs k) w)
          rw [show roundR (sizeI l rs k) = (halfI (sizeI l rs k), 0) by unfold roundR; rw [if_pos hsz]; rfl] at HRD
          have hh : 0 ≤ halfI (sizeI l rs k) ∧ halfI (sizeI l rs k) ≤ 20 := by have := size_iff.1 hsz; unfold halfI; omega
          obtain ⟨h0, h20⟩ := hh
          generalize cutsTo l rs x k = CT at *
          generalize hlg : legsI l rs k = LG at *
          generalize hmk : markI rs k = MK at *
          obtain ⟨D, hD⟩ : ∃ D, sizeI l rs k = D := ⟨_, rfl⟩
          rw [hD] at hlook HCS HRD h0 h20
          obtain ⟨H, hH⟩ : ∃ H, halfI D = H := ⟨_, rfl⟩
          rw [hH] at HRD h0 h20
          have HH := Lib.hid hH
          clear g1 g2 g3 g4 hsz hca hlg hmk hD hH q2
          have hlk := hlook
          go_wp2_with fail
          go_at_call 73; refine (HLG.out _ (HL.out.below HB1.out) (HR.out.below HB1.out)).mono ?_; rintro e w' ⟨v15, rfl, hown15, y1, rfl⟩
          have HO15 := Lib.hid (own_mono (base' := W1.heap.size) hown15 (by rw [size_ext]; omega))
          obtain ⟨a15, c15, rfl, k15, m15, -⟩ := own_shape hown15
          have n15 : c15 ≤ 9223372036854775807 := m15
          clear hown15
          go_wp2_with fail
          go_at_call 74; refine (HMK.out _ ((HL.out.below HB1.out).below (by (repeat (first | exact grow_refl _ | refine grow_ext _ ?_ | refine grow_alloc _ ?_ | refine grow_drew ?_)))) ((HR.out.below HB1.out).below (by (repeat (first | exact grow_refl _ | refine grow_ext _ ?_ | refine grow_alloc _ ?_ | refine grow_drew ?_))))).mono ?_; rintro e w' ⟨rfl, y2, rfl⟩
          go_wp2_with fail
          go_at_call 75; refine (HRD.out _).mono ?_; rintro e w' ⟨rfl, y3, rfl⟩
          clear hlook hlk
          go_wp2_with fail
          refine world_mask (fun W => (∃ z, W = ext W1 z) ∧ W.ownsRow W1.heap.size 38 6 (.slice a15 LG.length c15) LG.length (boxCells LG) ∧ W.ownsRow W1.heap.size 82 8 (.slice av CT.length cv) CT.length (ctCells CT)) _ ⟨ext_of (by (repeat (first | exact grow_refl _ | refine grow_ext _ ?_ | refine grow_alloc _ ?_ | refine grow_drew ?_))), own_ext (own_ext HO15.out _) _, own_ext (own_ext (own_ext HO.out _) _) _⟩ ?_
          clear HO15 HO
          rintro W2 ⟨hz, hbx, hro⟩
          go_loopw [13, 85] (fun v i wr => ∃ j : Nat, j ≤ LG.length ∧ i = .int .i64 j ∧ (∃ z, wr = ext W1 z) ∧ wr.ownsRow W1.heap.size 38 6 (.slice a15 LG.length c15) LG.length (boxCells LG) ∧ wr.ownsRow W1.heap.size 82 8 v (CT ++ (LG.take j).filterMap (cutOf D MK x)).length (ctCells (CT ++ (LG.take j).filterMap (cutOf D MK x)))) (fun _ i _ => LG.length - (intOf i).toNat)
          case atStart => exact ⟨0, by omega, rfl, hz, hbx, by simpa using hro⟩
          case round =>
            clear hro hz hbx
            obtain ⟨j, hj, rfl, ⟨z, rfl⟩, hbx4, hown4⟩ := hrel
            have HBX := Lib.hid hbx4
            obtain ⟨a', c', e', _, _, hbc⟩ := Boxes.of_own hbx4
            cases e'
            have HBC := Lib.hid hbc
            clear hbc hbx4
            have HO4 := Lib.hid hown4
            obtain ⟨av, cv, rfl, hv1, hv2, -⟩ := own_shape hown4
            have hv3 : cv ≤ 9223372036854775807 := hv2
            have hfl := List.length_filterMap_le (cutOf D MK x) (LG.take j)
            rw [List.length_take] at hfl
            have hlb : (CT ++ (LG.take j).filterMap (cutOf D MK x)).length ≤ 12006 := by rw [List.length_append]; have := HCL.out; omega
            have HLB := Lib.hid hlb
            clear hown4 hfl
            by_cases hltj : j < LG.length
            · have q5 : (0 : Int) ≤ (j : Int) := by omega
              have q6 : (j : Int) < (LG.length : Int) := by omega
              obtain ⟨b0, off, rfl, hbx⟩ := HBC.out j hltj
              have hft := filter_take (f := cutOf D MK x) hltj
              have hbv := HLV.out _ (List.getElem_mem hltj)
              obtain ⟨b, hb⟩ : ∃ b, LG[j] = b := ⟨_, rfl⟩
              rw [hb] at hbx hft hbv
              obtain ⟨c0, c1, c2, c3, c4, c5⟩ := hbx
              have HFT : Hid (CT ++ (LG.take (j + 1)).filterMap (cutOf D MK x) = (CT ++ (LG.take j).filterMap (cutOf D MK x)) ++ (match cutOf D MK x b with | some c => [c] | none => [])) := by rw [hft, List.append_assoc]; exact Lib.hid rfl
              generalize CT ++ (LG.take j).filterMap (cutOf D MK x) = L at *
              have hvb := valid_iff.1 hbv
              obtain ⟨v1, v2, v3, v4, v5, v6, v7, v8, v9⟩ := hvb
              clear hb hft hbv
              by_cases g1 : b.lx < b.hx
              · by_cases g2 : b.ly = b.hy
                · have d2 : (b.ly != b.hy) = false := by simpa using g2
                  by_cases g3 : b.lz = b.hz
                  · have d3 : (b.lz != b.hz) = false := by simpa using g3
                    cases g4 : inI x b.lx b.hx
                    · have HNO := Lib.hid (show (match cutOf D MK x b with | some c => [c] | none => []) = [] by unfold cutOf alongB; rw [decide_eq_true g1, decide_eq_true g2, decide_eq_true g3, g4]; rfl)
                      have HIN := Lib.hid g4
                      clear g2 g3 g4
                      go_wp2_with fail
                      go_at_call 43; refine (gwithin_v _ _ _ _ HIN.out _).mono ?_; rintro e w' ⟨rfl, y4, rfl⟩
                      go_wp2
                      go_roundw
                      case rel => exact ⟨j + 1, by omega, by go_num, ext_of (grow_ext _ (grow_alloc _ (below_ext _ _))), own_ext (HBX.out.alloc _) _, by rw [HFT.out, HNO.out, List.append_nil]; exact own_ext (HO4.out.alloc _) _⟩
                      case measure => simp [intOf]; omega
                    · have HYES := Lib.hid (show (match cutOf D MK x b with | some c => [c] | none => []) = [⟨⟨x, b.ly - H, b.lz - H, x, b.ly + H, b.lz + H⟩, D, MK⟩] by unfold cutOf alongB; rw [decide_eq_true g1, decide_eq_true g2, decide_eq_true g3, g4]; simp only [Bool.true_and, if_true, cutBox, HH.out])
                      have HIN := Lib.hid g4
                      clear g2 g3 g4
                      go_wp2_with fail
                      go_at_call 43; refine (gwithin_v _ _ _ _ HIN.out _).mono ?_; rintro e w' ⟨rfl, y4, rfl⟩
                      go_wp2_with (at_builtin; refine app_own_b rfl _ _ 78 rfl 82 (.agg #[.int .i64 0, .int .i64 0, .int .i64 0, .int .i64 0, .int .i64 0, .int .i64 0, .int .i64 0, .string ⟨#[]⟩]) 8 72 Tryz.underlying78 info_ct rfl (by decide) (W1.heap.size) (.slice av L.length cv) (L.length) (ctCells L) _ rfl (((own_ext (HO4.out.alloc _) _).alloc _).alloc _) _ 1 1 (ctCells [⟨⟨x, b.ly - H, b.lz - H, x, b.ly + H, b.lz + H⟩, D, MK⟩]) rfl rfl (cells_new ?_ _ _ _ rfl) (ctCells_one _) (by omega) (by decide) ?_ ?_; (first | rfl | simp [size_ext]); (simp only [World.size_alloc, size_ext]; omega); intro v' w1 hown' hgrow; have HO2 := Lib.hid hown'; obtain ⟨a', c', rfl, _, hc2, -⟩ := own_shape hown'; have hc3 : c' ≤ 9223372036854775807 := hc2; have HGR := Lib.hid hgrow; clear hown' hgrow hc2)
                      go_roundw
                      case rel =>
                        refine ⟨j + 1, by omega, by go_num, ?_, ?_, ?_⟩
                        · exact ext_grown2 (grow_alloc _ (grow_alloc _ (grow_ext _ (grow_alloc _ (below_ext _ _))))) HGR.out (fun q e => (HO4.out.lt q e).1)
                        · exact (((own_ext (HBX.out.alloc _) y4).alloc _).alloc _).kept HGR.out (own_ne HBX.out HO4.out (by decide))
                        · rw [HFT.out, HYES.out]
                          exact own_cts HO2.out rfl
                      case measure => simp [intOf]; omega
                  · have d3 : (b.lz != b.hz) = true := by simpa using g3
                    have HNO := Lib.hid (show (match cutOf D MK x b with | some c => [c] | none => []) = [] by unfold cutOf alongB; rw [decide_eq_false g3, Bool.false_and, Bool.and_false, Bool.and_false]; rfl)
                    clear g2 g3
                    go_wp2
                    go_roundw
                    case rel => exact ⟨j + 1, by omega, by go_num, ext_of (grow_alloc _ (below_ext _ _)), HBX.out.alloc _, by rw [HFT.out, HNO.out, List.append_nil]; exact HO4.out.alloc _⟩
                    case measure => simp [intOf]; omega
                · have d2 : (b.ly != b.hy) = true := by simpa using g2
                  have HNO := Lib.hid (show (match cutOf D MK x b with | some c => [c] | none => []) = [] by unfold cutOf alongB; rw [decide_eq_false g2, Bool.false_and, Bool.and_false]; rfl)
                  clear g2
                  go_wp2
                  go_roundw
                  case rel => exact ⟨j + 1, by omega, by go_num, ext_of (grow_alloc _ (below_ext _ _)), HBX.out.alloc _, by rw [HFT.out, HNO.out, List.append_nil]; exact HO4.out.alloc _⟩
                  case measure => simp [intOf]; omega
              · have HNO := Lib.hid (show (match cutOf D MK x b with | some c => [c] | none => []) = [] by unfold cutOf alongB; rw [decide_eq_false g1, Bool.false_and]; rfl)
                go_wp2
                go_roundw
                case rel => exact ⟨j + 1, by omega, by go_num, ext_of (grow_alloc _ (below_ext _ _)), HBX.out.alloc _, by rw [HFT.out, HNO.out, List.append_nil]; exact HO4.out.alloc _⟩
                case measure => simp [intOf]; omega
            · obtain rfl : j = LG.length := by omega
              rw [List.take_length] at HO4
              clear hlb
              go_wp2
              go_roundw
              case rel => exact ⟨k + 1, by omega, by go_num, ⟨_, rfl⟩, by rw [HCS.out]; simp only [List.take_length]; exact HO4.out⟩
              case measure => simp [intOf]; omega
        · obtain rfl : (k : Int) = N := by omega
          go_wp2
          go_ret2
          rw [HCI.out]
          exact ⟨_, rfl, own_mono HO.out HB.out.size, ext_of HB1.out⟩

end Go.Proofs.YtofjopdcbmaijaaGreat
