/- The path of a laid bar: laid.path. -/
import Derived.Test.YtofjopdcbmaijaaLaidL
namespace Go.Proofs.Ytofjopdcbmaijaa
open Go.RowKit
set_option maxRecDepth 20000
attribute [local go_sem] Oper.semAt_some

theorem laidAll_c (a b : Option Addr) (n m c d : Nat) (w : World) : Calls Try.prog 75 #[.slice a n c, .slice b m d] w (fun e W => e = .returned (.func (.func 90) #[] #[.pointer (some ⟨w.heap.size + 1, 0, none⟩), .pointer (some ⟨w.heap.size, 0, none⟩)]) ∧ W = (w.alloc (.cells #[.slice a n c] 35)).alloc (.cells #[.slice b m d] 42)) := by
  go_enter Try.func75, Try.ntmps75
  go_wp2
  go_ret
  exact ⟨rfl, rfl⟩
theorem enters_laidAll1 : Enters 90 := enters_of Try.func90 (by decide) (by simp [Try.f90])

/-- A slice that reads as points, and an error number. -/
def RetPts (w : World) (l : List Pt) (err : Int) (e : Ending) (w' : World) : Prop := ∃ v, e = .returned (.tuple #[v, .int .i64 err]) ∧ Pts w' v l ∧ ∃ x, w' = ext w x
theorem pts_nil (w : World) : Pts w (.slice none 0 0) [] := ⟨none, 0, rfl, Nat.le_refl _, by decide, fun i hi => absurd hi (Nat.not_lt_zero _)⟩
def pathE (l : List Br) (rs : List Rn) (i : Int) : List Pt × Int := if laidB l rs = true then (if 0 ≤ i ∧ i < countS rs then (pathI l rs i, 0) else ([], 2)) else ([], 1)

theorem Pts.setOther {W : World} {g n c : Nat} {l : List Pt} (h : Pts W (.slice (some ⟨g, 0, none⟩) n c) l) {a : Addr} (hne : a.block ≠ g) (u : Value) : Pts (W.setCell a u) (.slice (some ⟨g, 0, none⟩) n c) l := by
  obtain ⟨a', cap, e, h2, h3, h4⟩ := h
  cases e
  have hc : ∀ i v, W.cell? ⟨g, i, none⟩ = some v → (W.setCell a u).cell? ⟨g, i, none⟩ = some v := fun i v hv => (World.cell?_of_block (a := ⟨g, i, none⟩) (Below.heap_setCell W a u g (Ne.symm hne))).trans hv
  refine ⟨_, _, rfl, h2, h3, fun i hi => ?_⟩
  obtain ⟨b, off, eb, p0, p1, p2⟩ := h4 i hi
  cases eb
  exact ⟨g, 0, rfl, hc _ _ p0, hc _ _ p1, hc _ _ p2⟩
/-- What holds before each round of laid.path. -/
structure PathInv (w : World) (i k : Int) (B : World) : Prop where
  below : Below w.heap.size w B
  num : B.cell? ⟨w.heap.size, 0, none⟩ = some (.int .i64 i)
  res : Blk B (w.heap.size + 1) #[.slice none 0 0] 87
  err : Blk B (w.heap.size + 1 + 1) #[.int .i64 0] 23
  none : ¬ (0 ≤ i ∧ i < k)

set_option maxRecDepth 100000 in
set_option maxHeartbeats 4000000 in
theorem path_c (l : List Br) (rs : List Rn) (v u : Value) (i : Int) (w : World) (hl : Bars w v l) (hr : Runs w u rs) :
    Calls Try.prog 54 #[v, u, .int .i64 i] w (RetPts w (pathE l rs i).1 (pathE l rs i).2) := by
  have HL := Lib.hid hl
  have HR := Lib.hid hr
  obtain ⟨va, vc, rfl, _, _, _⟩ := hl.shape
  obtain ⟨ua, uc, rfl, _, _, _⟩ := hr.shape
  clear hl hr
  cases hv : laidB l rs
  · have HP := Lib.hid (show pathE l rs i = ([], 1) by unfold pathE; rw [hv]; rfl)
    have HV := Lib.hid hv
    clear hv
    go_enter Try.func54, Try.ntmps54
    go_wp2_with fail
    go_at_call 20; refine (laidValid_v l rs _ _ _ HV.out _ (HL.out.below (by (repeat (first | exact grow_refl _ | refine grow_ext _ ?_ | refine grow_alloc _ ?_ | refine grow_drew ?_)))) (HR.out.below (by (repeat (first | exact grow_refl _ | refine grow_ext _ ?_ | refine grow_alloc _ ?_ | refine grow_drew ?_))))).mono ?_; rintro e w' ⟨rfl, x1, rfl⟩
    go_wp2
    refine bodyPost_ret (v := .tuple #[.slice none 0 0, .int .i64 1]) (by simp [results, Try.results54, go_sem]) rfl ?_
    rw [HP.out]
    exact ⟨_, rfl, pts_nil _, ext_of (by (repeat (first | exact grow_refl _ | refine grow_ext _ ?_ | refine grow_alloc _ ?_ | refine grow_drew ?_)))⟩
  · have HP := Lib.hid (show pathE l rs i = (if 0 ≤ i ∧ i < countS rs then (pathI l rs i, 0) else ([], 2)) by unfold pathE; rw [hv]; rfl)
    have HV := Lib.hid hv
    clear hv
    refine (callsIn_wide (n := 3)).1 (callsIn_of_wp_marks Try.func54 rfl trivial ?_ rfl)
    simp only [Try.ntmps54, List.size_toArray, List.length_cons, List.length_nil, Nat.reduceAdd, Nat.reduceSub, Array.replicate_succ, Array.replicate_zero, List.push_toArray, List.append_toArray, List.nil_append, List.cons_append]
    refine wpIn_wide.2 ?_
    go_wp2_with fail
    go_at_call 20; refine (laidValid_v l rs _ _ _ HV.out _ (HL.out.below (by (repeat (first | exact grow_refl _ | refine grow_ext _ ?_ | refine grow_alloc _ ?_ | refine grow_drew ?_)))) (HR.out.below (by (repeat (first | exact grow_refl _ | refine grow_ext _ ?_ | refine grow_alloc _ ?_ | refine grow_drew ?_))))).mono ?_; rintro e w' ⟨rfl, x1, rfl⟩
    go_wp2_with fail
    go_at_call 75; refine (laidAll_c _ _ _ _ _ _ _).mono ?_; rintro e w' ⟨rfl, rfl⟩
    go_wp2_with fail
    obtain ⟨gB, hgB⟩ : ∃ g, g = w.heap.size + 1 + 1 + 1 + x1.heap.size := ⟨_, rfl⟩
    rw [← hgB]
    refine world_mask (fun W => Below w.heap.size w W ∧ W.cell? ⟨w.heap.size, 0, none⟩ = some (.int .i64 i) ∧ Blk W (w.heap.size + 1) #[.slice none 0 0] 87 ∧ Blk W (w.heap.size + 1 + 1) #[.int .i64 0] 23 ∧
      W.cell? ⟨gB, 0, none⟩ = some (.slice va l.length vc) ∧ W.cell? ⟨gB + 1, 0, none⟩ = some (.slice ua rs.length uc)) _ ⟨?_, ?_, ?_, ?_, ?_, ?_⟩ ?_
    · (repeat (first | exact grow_refl _ | refine grow_ext _ ?_ | refine grow_alloc _ ?_ | refine grow_drew ?_))
    · simp [go_sem]
    · exact (((Blk.alloc (Blk.new' (by simp) _ _) _).ext _).alloc _).alloc _
    · exact ((Blk.ext (Blk.new' (by simp) _ _) _).alloc _).alloc _
    · rw [hgB]; simp [go_sem]
    · rw [hgB]; simp [go_sem]
    clear hgB
    rintro W0 ⟨hB0, hc0, hb1, hb2, hcb, hcr⟩
    have HB0 := Lib.hid hB0
    refine (wpIn_wide (n := 3)).1 (wpIn_range_w (gf := 90) (lb := #[.pointer (some ⟨gB + 1, 0, none⟩), .pointer (some ⟨gB, 0, none⟩)]) rfl enters_laidAll1
      (fun k args A => ∃ g n : Nat, args = #[.int .i64 k, .slice (some ⟨g, 0, none⟩) n n] ∧ W0.heap.size ≤ g ∧ Pts A (.slice (some ⟨g, 0, none⟩) n n) (pathI l rs k)) (countS rs)
      (fun B => Below w.heap.size w B ∧ ∃ v', Blk B (w.heap.size + 1) #[v'] 87 ∧ Blk B (w.heap.size + 1 + 1) #[.int .i64 0] 23 ∧ Pts B v' (pathI l rs i) ∧ 0 ≤ i ∧ i < countS rs)
      ?hOk ?hIx ?hseq
      (PathInv w i)
      ?hI ⟨hB0, hc0, hb1, hb2, by omega⟩
      (fun args => { tmps := #[.slice va l.length vc, .slice ua rs.length uc, .int .i64 i, undef, undef, .pointer (some ⟨w.heap.size, 0, none⟩), .pointer (some ⟨w.heap.size + 1, 0, none⟩), .pointer (some ⟨w.heap.size + 1 + 1, 0, none⟩), args.getD 0 undef, args.getD 1 undef, .slice va l.length vc, .slice ua rs.length uc, .bool true, .bool false, .slice va l.length vc, .slice ua rs.length uc,
        .func (.func 90) #[] #[.pointer (some ⟨gB + 1, 0, none⟩), .pointer (some ⟨gB, 0, none⟩)], args.getD 0 undef, args.getD 1 undef, undef, undef, undef, undef], defers := [] })
      ?hassign ?hbody ?hdone ?hstop)
    case hOk => rintro k args A B ⟨g, n, e, hg, hp⟩ hk; exact ⟨g, n, e, hg, hk.pts hp⟩
    case hIx =>
      rintro A B ⟨h1, v', h2, h3, h4, h5⟩ hk
      exact ⟨h1.trans (hk.below.mono HB0.out.size), v', hk.blk h2, hk.blk h3, hk.pts h4, h5⟩
    case hseq =>
      intro ll J Jx W hbW hJ hY hj0
      refine (laidAll1_c l rs (.slice va l.length vc) (.slice ua rs.length uc) ll 0 W0.heap.size (gB + 1) gB W hbW.size (fun W' h => HL.out.below (HB0.out.trans ((hbW.trans h).mono HB0.out.size))) (fun W' h => HR.out.below (HB0.out.trans ((hbW.trans h).mono HB0.out.size))) HV.out
        (cell_below' hcr hbW) (cell_below' hcb hbW) J Jx hJ (fun k g n W' k0 k1 hj hb hgw hp => hY k _ W' k0 k1 hj (hbW.trans (hb.mono (Nat.le_refl _))) ⟨g, n, rfl, Nat.le_trans hbW.size hgw, hp⟩ rfl) hj0).mono ?_
      rintro e W' ⟨rfl, h⟩
      exact ⟨⟨_, rfl⟩, h⟩
    case hI =>
      rintro k A B ⟨h1, h2, h3, h4, h5⟩ hk
      exact ⟨h1.trans (hk.below.mono HB0.out.size), hk.cell h2, hk.blk h3, hk.blk h4, h5⟩
    case hassign =>
      rintro ll k args A K ⟨g, n, rfl, hg, hp⟩ hK
      gi_wp2
      exact hK
    case hbody =>
      rintro ll k args A hk0 hkN ⟨h1, h2, h3, h4, h5⟩ ⟨g, n, rfl, hg, hp⟩
      have hw0 := HB0.out.size
      have hlt2 := hb2.lt
      have e1 : A.cell? ⟨w.heap.size + 1, 0, none⟩ = some (.slice none 0 0) := h3.cell 0
      have e2 : A.cell? ⟨w.heap.size + 1 + 1, 0, none⟩ = some (.int .i64 0) := h4.cell 0
      have f1 := h3.frozen 0
      have f2 := h4.frozen 0
      have H1 := Lib.hid h1
      have H3 := Lib.hid h3
      have H4 := Lib.hid h4
      have H5 := Lib.hid h5
      have HPP := Lib.hid hp
      by_cases hki : k = i
      · have dk : (k == i) = true := by simpa using hki
        have HKI := Lib.hid hki
        clear h1 h3 h4 h5 hp hki
        gi_wp2
        refine ⟨⟨(H1.out.setCell (p := ⟨w.heap.size + 1, 0, none⟩) (by simp) _).setCell (p := ⟨w.heap.size + 1 + 1, 0, none⟩) (by simp; omega) _, .slice (some ⟨g, 0, none⟩) n n, ?_, ?_, ?_, ?_, ?_⟩, ?_⟩
        · exact (H3.out.set 0 _).other (a := ⟨w.heap.size + 1 + 1, 0, none⟩) (by simp) _
        · exact (H4.out.other (a := ⟨w.heap.size + 1, 0, none⟩) (by simp) _).set 0 _
        · rw [← HKI.out]; exact (HPP.out.setOther (a := ⟨w.heap.size + 1, 0, none⟩) (by simp; omega) _).setOther (a := ⟨w.heap.size + 1 + 1, 0, none⟩) (by simp; omega) _
        · rw [← HKI.out]; exact hk0
        · rw [← HKI.out]; exact hkN
        · exact (KeepsOthers.setCell _ _ _).trans (KeepsOthers.setCell _ _ _)
      · have dk : (k == i) = false := by simpa using hki
        have HKI := Lib.hid hki
        clear h1 h3 h4 h5 hp hki
        gi_wp2
        exact ⟨rfl, H1.out, h2, H3.out, H4.out, by have := H5.out; have := HKI.out; omega⟩
    case hdone =>
      rintro W ⟨h1, h2, h3, h4, h5⟩ hbW hD
      rw [if_neg h5] at HP
      have e1 : W.cell? ⟨w.heap.size + 1, 0, none⟩ = some (.slice none 0 0) := h3.cell 0
      have e2 : W.cell? ⟨w.heap.size + 1 + 1, 0, none⟩ = some (.int .i64 0) := h4.cell 0
      have f1 := h3.frozen 0
      have f2 := h4.frozen 0
      have hD2 : ((W.setCell ⟨w.heap.size + 1, 0, none⟩ (.slice none 0 0)).setCell ⟨w.heap.size + 1 + 1, 0, none⟩ (.int .i64 2)).heap[W0.heap.size]? = some (.deferred (some [])) :=
        ((KeepsOthers.setCell _ _ _).trans (KeepsOthers.setCell _ _ _)).same _ _ hD rfl
      have HK := Lib.hid hD2
      have HB := Lib.hid ((h1.setCell (p := ⟨w.heap.size + 1, 0, none⟩) (by simp) (.slice none 0 0)).setCell (p := ⟨w.heap.size + 1 + 1, 0, none⟩) (by simp; omega) (.int .i64 2))
      have HB2 : Hid (Below w.heap.size w (((W.setCell ⟨w.heap.size + 1, 0, none⟩ (.slice none 0 0)).setCell ⟨w.heap.size + 1 + 1, 0, none⟩ (.int .i64 2)).putObj W0.heap.size (.deferred none))) := HB.out.trans (belowK_b (w := w) (Nat.le_refl _) _ W0.heap.size _ _ HB0.out.size hD2 rfl rfl)
      have hkc : KC W0.heap.size _ (((W.setCell ⟨w.heap.size + 1, 0, none⟩ (.slice none 0 0)).setCell ⟨w.heap.size + 1 + 1, 0, none⟩ (.int .i64 2)).putObj W0.heap.size (.deferred none)) := KC.putObj (Nat.le_refl _) hD2 rfl
      have D1 := Lib.hid ((hkc.blk ((h3.set 0 (.slice none 0 0)).other (a := ⟨w.heap.size + 1 + 1, 0, none⟩) (by simp) (.int .i64 2))).cell 0)
      have D2 := Lib.hid ((hkc.blk ((h4.other (a := ⟨w.heap.size + 1, 0, none⟩) (by simp) (.slice none 0 0)).set 0 (.int .i64 2))).cell 0)
      have H3 := Lib.hid h3
      have H4 := Lib.hid h4
      clear h1 h2 h3 h4 h5 hbW hD hD2 hB0 hc0 hb1 hb2 hcb hcr hkc
      go_wp2
      refine ⟨by simp, .inl ⟨_, _, rfl, run_takeDeferred HK.out, ?_⟩⟩
      have d1 := D1.out
      have d2 := D2.out
      refine ⟨.tuple #[.slice none 0 0, .int .i64 2], by simp [results, Try.results54, go_sem, d1, d2], ?_⟩
      rw [HP.out]
      exact ⟨_, rfl, pts_nil _, ext_of HB2.out⟩
    case hstop =>
      rintro W ⟨h1, v', h2, h3, h4, h5, h6⟩ hD
      rw [if_pos ⟨h5, h6⟩] at HP
      have e1 : W.cell? ⟨w.heap.size + 1, 0, none⟩ = some v' := h2.cell 0
      have e2 : W.cell? ⟨w.heap.size + 1 + 1, 0, none⟩ = some (.int .i64 0) := h3.cell 0
      obtain ⟨a', c', rfl, _, _, _⟩ := h4.shape
      have HK := Lib.hid hD
      have HB2 : Hid (Below w.heap.size w (W.putObj W0.heap.size (.deferred none))) := h1.trans (belowK_b (w := w) (Nat.le_refl _) _ W0.heap.size _ _ HB0.out.size hD rfl rfl)
      have HKC : Hid (KC W0.heap.size W (W.putObj W0.heap.size (.deferred none))) := KC.putObj (Nat.le_refl _) hD rfl
      have H4 := Lib.hid h4
      clear hD hB0 hc0 hb1 hb2 hcb hcr h4
      refine wpIn_wide.2 ?_
      go_wp2
      refine ⟨by simp, .inl ⟨_, _, rfl, run_takeDeferred HK.out, ?_⟩⟩
      have d1 : (W.putObj W0.heap.size (.deferred none)).cell? ⟨w.heap.size + 1, 0, none⟩ = some (.slice a' (pathI l rs i).length c') := HKC.out.cell e1
      have d2 : (W.putObj W0.heap.size (.deferred none)).cell? ⟨w.heap.size + 1 + 1, 0, none⟩ = some (.int .i64 0) := HKC.out.cell e2
      refine ⟨.tuple #[.slice a' (pathI l rs i).length c', .int .i64 0], by simp [results, Try.results54, go_sem, d1, d2], ?_⟩
      rw [HP.out]
      exact ⟨_, rfl, HKC.out.pts H4.out, ext_of HB2.out⟩

end Go.Proofs.Ytofjopdcbmaijaa
