/- CovP, CovR, CovS, RefV in one text. -/
import Derived.Test.YtmhhohancconaaaGreatCovK
import Derived.Test.YtmhhohancconaaaGreatGapK1
import Derived.Test.YtmhhohancconaaaGreatSzMap
import Derived.Test.YtmhhohancconaaaGreatLaidK4
import Derived.Deep.DeepCutAuto
import Derived.Test.YtmhhohancconaaaGreatFds
import Derived.Test.YtmhhohancconaaaGreatRefCovK
import Derived.Test.YtmhhohancconaaaGreatRefMK
import Derived.Test.YtmhhohancconaaaGreatRefLK3
namespace Go.Proofs.YtmhhohancconaaaGreat
open Go.RowKit
set_option maxRecDepth 20000

theorem coverC_in (l m : List Bx) (b : Bx) : -1 ≤ coverC l m b ∧ coverC l m b ≤ 2097152 := topC_in _
/-- The least cover of legs. -/
def coverL (q : Mb) (d : Int) (L : List Bx) : Int := L.foldl (fun a b => min a (coverC q.l q.m (coreX d b))) 2097152
theorem coverL_nil (q : Mb) (d : Int) : coverL q d [] = 2097152 := rfl
theorem coverL_take (q : Mb) (d : Int) {L : List Bx} {k : Nat} (h : k < L.length) : coverL q d (L.take (k + 1)) = min (coverL q d (L.take k)) (coverC q.l q.m (coreX d L[k])) := by
  unfold coverL
  rw [List.take_succ_eq_append_getElem h, List.foldl_append]; rfl
theorem coverL_one (q : Mb) (d : Int) {L : List Bx} (h : 0 < L.length) : coverL q d (L.take 1) = coverC q.l q.m (coreX d L[0]) := by
  rw [coverL_take q d h, List.take_zero, coverL_nil]
  have := coverC_in q.l q.m (coreX d L[0]); omega
theorem coverL_in (q : Mb) (d : Int) (L : List Bx) : -1 ≤ coverL q d L ∧ coverL q d L ≤ 2097152 := by
  have key : ∀ a : Int, -1 ≤ a → -1 ≤ L.foldl (fun a b => min a (coverC q.l q.m (coreX d b))) a ∧ L.foldl (fun a b => min a (coverC q.l q.m (coreX d b))) a ≤ a := by
    induction L with
    | nil => intro a ha; exact ⟨ha, Int.le_refl _⟩
    | cons b L ih =>
      intro a ha
      have h1 := coverC_in q.l q.m (coreX d b)
      have h2 := ih (min a (coverC q.l q.m (coreX d b))) (by omega)
      rw [List.foldl_cons]
      omega
  exact key _ (by decide)
theorem shape_legs {b : Br} (h : shapeB b = true) : 1 ≤ (legsC b.code).length := by
  obtain ⟨h1, _, _, _, _, _⟩ := shape_facts h
  obtain ⟨mark, size, count, code, dims, dv⟩ := b
  simp only at h1 ⊢
  clear h
  rcases legs_cases code with rfl | rfl | rfl | rfl | rfl | rfl | rfl | rfl | ⟨_, he⟩
  all_goals first | decide | (unfold dimsR at h1; rw [he] at h1; exact absurd h1 (by decide))
theorem legsI_some {l : List Br} {rs : List Rn} (h : laidB l rs = true) {i : Int} (h0 : 0 ≤ i) (hi : i < countS rs) : 1 ≤ (legsI l rs i).length := by
  obtain ⟨r, j, e, hm, _, _⟩ := placeR_some (laidB_iff.1 h).2.2.1 h0 hi
  have hb := (laidB_iff.1 h).2.2.1 r hm
  rw [runB_eq] at hb
  simp only [right1, Bool.and_eq_true, decide_eq_true_iff] at hb
  have hs := shape_legs (schedB_shape (laidB_iff.1 h).1 _ (bar_mem hb.1.1))
  unfold legsI
  rw [legsP_len, show pathI l rs i = laidL (barOf l r.mark) r j by unfold pathI; rw [e]]
  unfold laidL pathL
  rw [List.length_map, ptsK_length]
  omega
theorem legsI_most (l : List Br) (rs : List Rn) (i : Int) : (legsI l rs i).length ≤ 6 := by
  have h2 := pathI_len l rs i
  have h3 : (legsI l rs i).length = (pathI l rs i).length - 1 := legsP_len _
  omega

/-- The cover of a laid bar. -/
def barI (q : Mb) (l : List Br) (rs : List Rn) (i : Int) : Int := coverL q (sizeI l rs i) (legsI l rs i)
theorem barI_in (q : Mb) (l : List Br) (rs : List Rn) (i : Int) : -1 ≤ barI q l rs i ∧ barI q l rs i ≤ 2097152 := coverL_in _ _ _
/-- The findings of the first n bars, and their least cover with its number. -/
def coverTo (q : Mb) (l : List Br) (rs : List Rn) (n : Nat) : List ByteArray := (List.range n).filterMap fun i : Nat => if barI q l rs i < q.cover then some (markI rs i) else none
theorem coverTo_succ (q : Mb) (l : List Br) (rs : List Rn) (n : Nat) : coverTo q l rs (n + 1) = coverTo q l rs n ++ (if barI q l rs n < q.cover then [markI rs n] else []) := by
  unfold coverTo
  rw [List.range_succ, List.filterMap_append]
  by_cases h : barI q l rs n < q.cover <;> simp [h]
theorem coverTo_len (q : Mb) (l : List Br) (rs : List Rn) (n : Nat) : (coverTo q l rs n).length ≤ n := by
  have := List.length_filterMap_le (fun i : Nat => if barI q l rs i < q.cover then some (markI rs i) else none) (List.range n)
  rw [List.length_range] at this
  exact this
def leastTo (q : Mb) (l : List Br) (rs : List Rn) : Nat → Nat × Int
  | 0 => (0, 2097152)
  | n + 1 => if barI q l rs n < (leastTo q l rs n).2 then (n, barI q l rs n) else leastTo q l rs n
theorem least_in (q : Mb) (l : List Br) (rs : List Rn) (n : Nat) : (leastTo q l rs n).1 ≤ n ∧ -1 ≤ (leastTo q l rs n).2 ∧ (leastTo q l rs n).2 ≤ 2097152 := by
  induction n with
  | zero => exact ⟨Nat.le_refl _, show (-1 : Int) ≤ 2097152 by decide, show (2097152 : Int) ≤ 2097152 by decide⟩
  | succ n ih =>
    have := barI_in q l rs n
    unfold leastTo
    by_cases h : barI q l rs n < (leastTo q l rs n).2
    · rw [if_pos h]; exact ⟨by simp, by simp only; omega, by simp only; omega⟩
    · rw [if_neg h]; exact ⟨by omega, ih.2⟩
theorem least_one (q : Mb) (l : List Br) (rs : List Rn) : leastTo q l rs 1 = (0, barI q l rs (0 : Nat)) := by
  have := barI_in q l rs (0 : Nat)
  unfold leastTo
  by_cases h : barI q l rs (0 : Nat) < (leastTo q l rs 0).2
  · rw [if_pos h]
  · rw [if_neg h]
    unfold leastTo at h ⊢
    simp only at h
    rw [show barI q l rs (0 : Nat) = 2097152 by omega]
theorem least_spec (q : Mb) (l : List Br) (rs : List Rn) (n : Nat) : (leastTo q l rs (n + 1)).1 ≤ n ∧ (leastTo q l rs (n + 1)).2 = barI q l rs ((leastTo q l rs (n + 1)).1 : Nat) ∧
    ∀ j : Nat, j ≤ n → (leastTo q l rs (n + 1)).2 ≤ barI q l rs j ∧ (j < (leastTo q l rs (n + 1)).1 → barI q l rs j ≠ (leastTo q l rs (n + 1)).2) := by
  induction n with
  | zero =>
    rw [least_one]
    exact ⟨Nat.le_refl _, rfl, fun j hj => by obtain rfl : j = 0 := by omega
                                              exact ⟨Int.le_refl _, fun h => absurd h (by simp)⟩⟩
  | succ n ih =>
    obtain ⟨h1, h2, h3⟩ := ih
    rw [show leastTo q l rs (n + 1 + 1) = if barI q l rs (n + 1 : Nat) < (leastTo q l rs (n + 1)).2 then (n + 1, barI q l rs (n + 1 : Nat)) else leastTo q l rs (n + 1) from rfl]
    by_cases h : barI q l rs (n + 1 : Nat) < (leastTo q l rs (n + 1)).2
    · rw [if_pos h]
      refine ⟨Nat.le_refl _, rfl, fun j hj => ?_⟩
      by_cases hj1 : j = n + 1
      · subst hj1; exact ⟨Int.le_refl _, fun h => absurd h (by simp)⟩
      · have := (h3 j (by omega)).1
        exact ⟨by simp only; omega, fun _ => by simp only; omega⟩
    · rw [if_neg h]
      refine ⟨by omega, h2, fun j hj => ?_⟩
      by_cases hj1 : j = n + 1
      · subst hj1; exact ⟨by omega, fun h' => absurd h' (by omega)⟩
      · exact h3 j (by omega)
/-- No findings: each of the first bars has the member's cover. -/
theorem none_iff (q : Mb) (l : List Br) (rs : List Rn) (n : Nat) : (coverTo q l rs n).length = 0 ↔ ∀ j : Nat, j < n → q.cover ≤ barI q l rs j := by
  induction n with
  | zero => exact ⟨fun _ j hj => absurd hj (by simp), fun _ => rfl⟩
  | succ n ih =>
    rw [coverTo_succ, List.length_append]
    by_cases h : barI q l rs n < q.cover
    · rw [if_pos h]
      exact ⟨fun h' => absurd h' (by simp), fun h' => absurd (h' n (by omega)) (by omega)⟩
    · rw [if_neg h]
      simp only [List.length_nil, Nat.add_zero]
      rw [ih]
      refine ⟨fun h' j hj => ?_, fun h' j hj => h' j (by omega)⟩
      by_cases hj1 : j = n
      · subst hj1; omega
      · exact h' j (by omega)
theorem found_mem (q : Mb) (l : List Br) (rs : List Rn) {n j : Nat} (hj : j < n) (h : barI q l rs j < q.cover) : markI rs j ∈ coverTo q l rs n := by
  unfold coverTo
  rw [List.mem_filterMap]
  exact ⟨j, List.mem_range.2 hj, by rw [if_pos h]⟩
theorem none_least (q : Mb) (l : List Br) (rs : List Rn) (n : Nat) : (coverTo q l rs (n + 1)).length = 0 ↔ q.cover ≤ (leastTo q l rs (n + 1)).2 := by
  obtain ⟨h1, h2, h3⟩ := least_spec q l rs n
  rw [none_iff]
  refine ⟨fun h => ?_, fun h j hj => ?_⟩
  · have := h (leastTo q l rs (n + 1)).1 (by omega)
    omega
  · have := (h3 j (by omega)).1
    omega
def barE (q : Mb) (l : List Br) (rs : List Rn) (i : Int) : Int × ByteArray × Int :=
  if laidB l rs = true then (if 0 ≤ i ∧ i < countS rs then (barI q l rs i, markI rs i, 0) else (0, ⟨#[]⟩, 2)) else (0, ⟨#[]⟩, 1)
theorem placeR_none {l : List Br} {rs : List Rn} (h : ∀ r ∈ rs, runB l r = true) {i : Int} (hi : countS rs ≤ i) : placeR rs i = none := by
  induction rs generalizing i with
  | nil => rfl
  | cons r rs ih =>
    have h1 := runB_count (h r List.mem_cons_self)
    have h2 := countS_nonneg (fun x hx => h x (List.mem_cons_of_mem _ hx))
    simp only [countS] at hi
    simp only [placeR]
    rw [if_neg (by omega)]
    exact ih (fun x hx => h x (List.mem_cons_of_mem _ hx)) (by omega)
theorem markE_out {l : List Br} {rs : List Rn} (hv : laidB l rs = true) {i : Int} (h : ¬ (0 ≤ i ∧ i < countS rs)) : markE l rs i = (⟨#[]⟩, 2) := by
  unfold markE
  rw [if_pos hv]
  by_cases h0 : i < 0
  · rw [if_pos h0]
  · rw [if_neg h0, placeR_none (laidB_iff.1 hv).2.2.1 (by omega)]
theorem markE_bad {l : List Br} {rs : List Rn} (hv : laidB l rs = false) (i : Int) : markE l rs i = (⟨#[]⟩, 1) := by
  unfold markE; rw [hv]; rfl

end Go.Proofs.YtmhhohancconaaaGreat

namespace Go.Proofs.YtmhhohancconaaaGreat
open Go.RowKit
set_option maxRecDepth 20000

def RetSizes (w : World) (l : List Br) (e : Ending) (W : World) : Prop := ∃ gM, e = .returned (.map (some gM)) ∧ SzMap sizeF W gM l.length l ∧ ∃ x, W = ext w x
set_option maxRecDepth 100000 in
set_option maxHeartbeats 4000000 in
theorem sizes18_c (l : List Br) (v : Value) (hs : schedB l = true) (w : World) (hl : Bars w v l) : Calls Tryz.prog 46 #[v] w (RetSizes w l) := by
  obtain ⟨va, vc, rfl, h2, h3, h4⟩ := hl.shape
  have H4 := Lib.hid h4
  have HS := Lib.hid (schedB_shape hs)
  have hlen60 : l.length ≤ 60 := by
    unfold schedB at hs
    simp only [Bool.and_eq_true, decide_eq_true_iff] at hs
    exact hs.1
  have hmm := @run_makeMap Tryz.prog
  clear hl h4 hs
  go_enter Tryz.func46, Tryz.ntmps46
  go_wp2_with fail
  obtain ⟨gM, hgM⟩ : ∃ g, g = w.heap.size := ⟨_, rfl⟩
  rw [← hgM]
  refine world_mask (fun W => Below w.heap.size w W ∧ SzMap sizeF W gM 0 [] ∧ w.heap.size ≤ gM) _ ⟨by (repeat (first | exact grow_refl _ | refine grow_ext _ ?_ | refine grow_alloc _ ?_ | refine grow_drew ?_)), by rw [hgM]; exact SzMap.made sizeF w, by omega⟩ ?_
  clear hgM hmm
  rintro W0 ⟨hb0, hm0, hgM⟩
  go_loopw [9] (fun i wr => ∃ k : Nat, k ≤ l.length ∧ i = .int .i64 k ∧ Below w.heap.size w wr ∧ SzMap sizeF wr gM k (l.take k)) (fun i _ => l.length - (intOf i).toNat)
  case atStart => exact ⟨0, by omega, rfl, hb0, hm0⟩
  case round =>
    clear hb0 hm0
    obtain ⟨k, hk, rfl, hb, hm⟩ := hrel
    have HB := Lib.hid hb
    have HM := Lib.hid hm
    by_cases hlt : k < l.length
    · obtain ⟨hok, b0, off, rfl, hbr⟩ := H4.out k hlt
      have q1 : (0 : Int) ≤ (k : Int) := by omega
      have q2 : (k : Int) < (l.length : Int) := by omega
      have hsz := (shape_facts (HS.out _ (List.getElem_mem hlt))).2.2.1
      have htk : l.take (k + 1) = l.take k ++ [l[k]] := List.take_succ_eq_append_getElem hlt
      obtain ⟨b, hbl⟩ : ∃ b, l[k] = b := ⟨_, rfl⟩
      rw [hbl] at hok hbr hsz htk
      obtain ⟨y, ey⟩ := ext_of hb
      have hbr2 := hbr.ext y
      rw [← ey] at hbr2
      obtain ⟨c0, c1, c2, c3, c4⟩ := hbr2
      obtain ⟨ad, cd, ev, _, _, _⟩ := hok.dims
      have hns := hok.mark
      obtain ⟨mark, size, count, code, dims, dv⟩ := b
      simp only at ev c0 c1 c2 c3 c4 hsz hns
      subst ev
      have HTK := Lib.hid htk
      have hwf := size_wf hsz
      have HSI := Lib.hid hsz
      obtain ⟨D, m1, m2, m3⟩ := hm
      have M1 := Lib.hid (show (wr.alloc (.cells #[.string mark, .int .i64 size, .int .i64 count, .int .i64 code, .slice ad dims.length cd] 51)).ownsMap Tryz.prog 9 (plainElem Tryz.prog 3) gM k D from m1.kept (row := none) (World.grownBy_alloc _ _ none) (by simp))
      have M2 := Lib.hid m2
      have M3 := Lib.hid m3
      have hml := m1.lt
      clear hok hbr hsz htk hbl ey hb m1 m2 m3
      go_wp2_with (at_mapUpdate; refine wpList_mapUpdate_own _ rfl _ _ _ 116 rfl 9 3 marks_law Tryz.underlying116 _ gM k D rfl M1.out (by unfold maxLen; omega) _ _ (.string mark.data.toList) rfl rfl (WideMaps.keyOf_string_mk Tryz.underlying9 (by unfold maxLen; exact hns)) (.lit (.int .i64 size)) [] (plainElem_int Tryz.underlying3 hwf) ?_; intro w2 hown2 hgrow2; have HG2 := Lib.hid hgrow2; have HN2 := Lib.hid (SzMap.put (g := sizeF) (f := ⟨mark, size, count, code, dims, .slice ad dims.length cd⟩) M2.out M3.out hown2); clear hgrow2 hown2)
      go_roundw
      case rel => exact ⟨k + 1, by omega, by go_num, (HB.out.alloc HB.out.size _).grown HG2.out (by have := HB.out.size; simp only [World.size_alloc]; omega) (fun j e => by cases e; exact hgM), by rw [HTK.out]; exact HN2.out⟩
      case measure => simp [intOf]; omega
    · obtain rfl : k = l.length := by omega
      rw [List.take_length] at HM
      clear hb hm
      go_wp2
      go_ret
      exact ⟨_, rfl, HM.out, ext_of HB.out⟩

theorem mark_small {l : List Br} {rs : List Rn} {u : Value} {w : World} (hv : laidB l rs = true) (hr : Runs w u rs) {i : Int} (h0 : 0 ≤ i) (hi : i < countS rs) : (markI rs i).size ≤ 9223372036854775807 := by
  obtain ⟨a', cap', e', _, _, h6⟩ := hr.shape
  obtain ⟨g1, g2, r0, g3, g4⟩ := mark_of hv h0 hi
  obtain ⟨j, hj, ej⟩ := List.getElem_of_mem g3
  have := (h6 j hj).1
  rw [ej, g4] at this
  exact this

set_option maxRecDepth 100000 in
set_option maxHeartbeats 4000000 in
theorem bar18_c (q : Mb) (l : List Br) (rs : List Rn) (v u : Value) (i : Int) (hs : solidB q.l q.m = true) (himax : i ≤ 9223372036854775807) (w : World) (hq : MbAt w q) (hl : Bars w v l) (hr : Runs w u rs) :
    Calls Tryz.prog 22 #[(.agg #[.string q.name, q.u, q.t, .int .i64 q.cover, .int .i64 q.agg, .int .i64 q.poker]), v, u, .int .i64 i] w (Ret w (.tuple #[.int .i64 (barE q l rs i).1, .string (barE q l rs i).2.1, .int .i64 (barE q l rs i).2.2])) := by
  have HQ := Lib.hid hq
  have HL := Lib.hid hl
  have HR := Lib.hid hr
  cases hv : laidB l rs
  · have HMK := Lib.hid (fun w hl hr => mark_v l rs v u i _ _ (markE_bad hv i) himax w hl hr)
    rw [show barE q l rs i = (0, ⟨#[]⟩, 1) by unfold barE; rw [hv]; rfl]
    clear hq hl hr hv hs
    go_enter Tryz.func22, Tryz.ntmps22
    go_wp2_with fail
    go_at_call 9; refine (HMK.out _ (HL.out.below (by (repeat (first | exact grow_refl _ | refine grow_ext _ ?_ | refine grow_alloc _ ?_ | refine grow_drew ?_)))) (HR.out.below (by (repeat (first | exact grow_refl _ | refine grow_ext _ ?_ | refine grow_alloc _ ?_ | refine grow_drew ?_))))).mono ?_; rintro e w' ⟨rfl, x1, rfl⟩
    go_wp2
    refine bodyPost_ret (v := .tuple #[.int .i64 0, .string ⟨#[]⟩, .int .i64 1]) (by simp [results, Tryz.results22, go_sem]) rfl ?_
    exact Ret.of (by (repeat (first | exact grow_refl _ | refine grow_ext _ ?_ | refine grow_alloc _ ?_ | refine grow_drew ?_)))
  by_cases hi : 0 ≤ i ∧ i < countS rs
  case neg =>
    have HMK := Lib.hid (fun w hl hr => mark_v l rs v u i _ _ (markE_out hv hi) himax w hl hr)
    rw [show barE q l rs i = (0, ⟨#[]⟩, 2) by unfold barE; rw [if_pos hv, if_neg hi]]
    clear hq hl hr hv hs hi
    go_enter Tryz.func22, Tryz.ntmps22
    go_wp2_with fail
    go_at_call 9; refine (HMK.out _ (HL.out.below (by (repeat (first | exact grow_refl _ | refine grow_ext _ ?_ | refine grow_alloc _ ?_ | refine grow_drew ?_)))) (HR.out.below (by (repeat (first | exact grow_refl _ | refine grow_ext _ ?_ | refine grow_alloc _ ?_ | refine grow_drew ?_))))).mono ?_; rintro e w' ⟨rfl, x1, rfl⟩
    go_wp2
    refine bodyPost_ret (v := .tuple #[.int .i64 0, .string ⟨#[]⟩, .int .i64 2]) (by simp [results, Tryz.results22, go_sem]) rfl ?_
    exact Ret.of (by (repeat (first | exact grow_refl _ | refine grow_ext _ ?_ | refine grow_alloc _ ?_ | refine grow_drew ?_)))
  obtain ⟨q1, q2⟩ := hi
  obtain ⟨g1, g2, -⟩ := mark_of hv q1 q2
  have hsz := size_of hv q1 q2
  have hms := mark_small hv hr q1 q2
  have hsd := (laidB_iff.1 hv).1
  have HMK := Lib.hid (fun w hl hr => mark_v l rs v u i _ _ g1 himax w hl hr)
  have HLG := Lib.hid (fun w hl hr => legsLaid_c l rs v u i w hl hr)
  rw [show legsE l rs i = (legsI l rs i, 0) by unfold legsE; rw [if_pos hv, if_pos ⟨q1, q2⟩]] at HLG
  have HSZ := Lib.hid (fun w hl => sizes18_c l v hsd w hl)
  have HLK := Lib.hid (show ∀ W b n, SzMap sizeF W b n l → (Instr.lookup 116 (.map (some b)) (.string (markI rs i)) false).run Tryz.prog W = .ok (.int .i64 (sizeI l rs i)) W from fun W b n h => by
    have := h.look (markI rs i) hms
    rw [szOf_find sizeF hsd g2] at this
    exact this)
  have hlv := legsI_valid hv q1 q2
  have HOF := Lib.hid (fun k (hk : k < (legsI l rs i).length) w hq => of_c q (sizeI l rs i) (legsI l rs i)[k] _ rfl hs (hlv _ (List.getElem_mem hk)) hsz w hq)
  have hll := legsI_most l rs i
  have HE := Lib.hid (show barE q l rs i = (coverL q (sizeI l rs i) (legsI l rs i), markI rs i, 0) by unfold barE; rw [if_pos hv, if_pos ⟨q1, q2⟩]; rfl)
  generalize legsI l rs i = LG at *
  generalize markI rs i = MK at *
  generalize sizeI l rs i = D at *
  clear hq hl hr hv hs hsd g1 g2 hsz hlv q1 q2
  go_enter Tryz.func22, Tryz.ntmps22
  go_wp2_with fail
  go_at_call 9; refine (HMK.out _ (HL.out.below (by (repeat (first | exact grow_refl _ | refine grow_ext _ ?_ | refine grow_alloc _ ?_ | refine grow_drew ?_)))) (HR.out.below (by (repeat (first | exact grow_refl _ | refine grow_ext _ ?_ | refine grow_alloc _ ?_ | refine grow_drew ?_))))).mono ?_; rintro e w' ⟨rfl, x1, rfl⟩
  go_wp2_with fail
  go_at_call 10; refine (HLG.out _ (HL.out.below (by (repeat (first | exact grow_refl _ | refine grow_ext _ ?_ | refine grow_alloc _ ?_ | refine grow_drew ?_)))) (HR.out.below (by (repeat (first | exact grow_refl _ | refine grow_ext _ ?_ | refine grow_alloc _ ?_ | refine grow_drew ?_))))).mono ?_; rintro e w' ⟨v2, rfl, hown, x2, rfl⟩
  have HBX := Lib.hid (Boxes.of_own hown)
  obtain ⟨a2, c2, rfl, k2, m2, -⟩ := own_shape hown
  have n2 : c2 ≤ 9223372036854775807 := m2
  clear hown
  go_wp2_with fail
  go_at_call 46; refine (HSZ.out _ (HL.out.below (by (repeat (first | exact grow_refl _ | refine grow_ext _ ?_ | refine grow_alloc _ ?_ | refine grow_drew ?_))))).mono ?_; rintro e w' ⟨gM, rfl, hm, x3, rfl⟩
  have hlk := HLK.out _ _ _ hm
  clear hm
  go_wp2_with fail
  clear hlk
  refine world_mask (fun W => MbAt W q ∧ (∃ z, W = ext w z) ∧ MCells W w.heap.size q ∧ Boxes W (.slice a2 LG.length c2) LG) _ ?_ ?_
  · exact ⟨HQ.out.below (by (repeat (first | exact grow_refl _ | refine grow_ext _ ?_ | refine grow_alloc _ ?_ | refine grow_drew ?_))), ext_of (by (repeat (first | exact grow_refl _ | refine grow_ext _ ?_ | refine grow_alloc _ ?_ | refine grow_drew ?_))), by simp [MCells, go_sem], HBX.out.below (by (repeat (first | exact grow_refl _ | refine grow_ext _ ?_ | refine grow_alloc _ ?_ | refine grow_drew ?_)))⟩
  clear HBX
  rintro W1 ⟨hq1, hbe, hm1, hb1⟩
  have HQ1 := Lib.hid hq1
  have HBE := Lib.hid hbe
  have HM1 := Lib.hid hm1
  have HB1 := Lib.hid hb1
  clear hq1 hbe hm1 hb1
  go_loopw [15, 44] (fun a i wr => ∃ k : Nat, k ≤ LG.length ∧ i = .int .i64 k ∧ a = .int .i64 (coverL q D (LG.take k)) ∧ ∃ z, wr = ext W1 z) (fun _ i _ => LG.length - (intOf i).toNat)
  case atStart => exact ⟨0, by omega, rfl, rfl, ext_of (by (repeat (first | exact grow_refl _ | refine grow_ext _ ?_ | refine grow_alloc _ ?_ | refine grow_drew ?_)))⟩
  case round =>
    obtain ⟨k, hk, rfl, rfl, z, rfl⟩ := hrel
    by_cases hlt : k < LG.length
    · have q1 : (0 : Int) ≤ (k : Int) := by omega
      have q2 : (k : Int) < (LG.length : Int) := by omega
      obtain ⟨a', cap', e', -, -, h5⟩ := HB1.out
      cases e'
      obtain ⟨b0, o0, rfl, hbx⟩ := h5 k hlt
      obtain ⟨m0, m1, m2, m3, m4, m5⟩ := HM1.out.ext z
      have HOK := Lib.hid (fun w hq => HOF.out k hlt w hq)
      have HCT := Lib.hid (coverL_take q D hlt)
      obtain ⟨L, hL⟩ : ∃ L, LG[k] = L := ⟨_, rfl⟩
      rw [hL] at hbx HOK HCT
      obtain ⟨c0, c1, c2, c3, c4, c5⟩ := hbx.ext z
      generalize coverL q D (LG.take k) = A at *
      generalize coverC q.l q.m (coreX D L) = C at *
      clear h5 hL hbx
      go_wp2_with fail
      go_at_call 47; refine (HOK.out _ (HQ1.out.below (by (repeat (first | exact grow_refl _ | refine grow_ext _ ?_ | refine grow_alloc _ ?_ | refine grow_drew ?_))))).mono ?_; rintro e w' ⟨rfl, y1, rfl⟩
      go_wp2
      go_roundw
      case rel => exact ⟨k + 1, by omega, by go_num, by rw [HCT.out], ext_of (by (repeat (first | exact grow_refl _ | refine grow_ext _ ?_ | refine grow_alloc _ ?_ | refine grow_drew ?_)))⟩
      case measure => simp [intOf]; omega
    · obtain rfl : k = LG.length := by omega
      rw [List.take_length]
      obtain ⟨zz, ezz⟩ := HBE.out
      subst ezz
      go_wp2
      rw [HE.out]
      refine bodyPost_ret (v := .tuple #[.int .i64 (coverL q D LG), .string MK, .int .i64 0]) (by simp [results, Tryz.results22, go_sem]) rfl ?_
      exact Ret.of (by (repeat (first | exact grow_refl _ | refine grow_ext _ ?_ | refine grow_alloc _ ?_ | refine grow_drew ?_)))

/-- cover.Bar: the cover of a laid bar, or an error. -/
def barX (q : Mb) (l : List Br) (rs : List Rn) (i : Int) : Int × Int := if mbB q = true then ((barE q l rs i).1, (barE q l rs i).2.2) else (0, 1)
set_option maxHeartbeats 2000000 in
theorem Bar18_c (q : Mb) (l : List Br) (rs : List Rn) (v u : Value) (i : Int) (himax : i ≤ 9223372036854775807) (w : World) (hq : MbAt w q) (hl : Bars w v l) (hr : Runs w u rs) :
    Calls Tryz.prog 11 #[(.agg #[.string q.name, q.u, q.t, .int .i64 q.cover, .int .i64 q.agg, .int .i64 q.poker]), v, u, .int .i64 i] w (Ret w (.tuple #[.int .i64 (barX q l rs i).1, .int .i64 (barX q l rs i).2])) := by
  have HQ := Lib.hid hq
  have HL := Lib.hid hl
  have HR := Lib.hid hr
  have HM := Lib.hid (fun r h w hs hl hm => solidMember_v q.name q.l q.m q.u q.t q.cover q.agg q.poker r h hs w hl hm)
  unfold barX mbB
  clear hq hl hr
  cases hm : memberB q.name q.l q.m q.cover q.agg q.poker
  · have H1 := Lib.hid hm
    simp only [Bool.false_eq_true, if_false]
    clear hm
    go_enter Tryz.func11, Tryz.ntmps11
    go_wp2_with fail
    go_at_call 27; refine (HM.out _ H1.out _ HQ.out.name (HQ.out.boxes.below (by (repeat (first | exact grow_refl _ | refine grow_ext _ ?_ | refine grow_alloc _ ?_ | refine grow_drew ?_)))) (HQ.out.holes.below (by (repeat (first | exact grow_refl _ | refine grow_ext _ ?_ | refine grow_alloc _ ?_ | refine grow_drew ?_))))).mono ?_; rintro e w' ⟨rfl, x1, rfl⟩
    go_wp2
    go_ret2
    exact Ret.of (by (repeat (first | exact grow_refl _ | refine grow_ext _ ?_ | refine grow_alloc _ ?_ | refine grow_drew ?_)))
  · have H1 := Lib.hid hm
    have HB := Lib.hid (fun w hq hl hr => bar18_c q l rs v u i (mb_solid hm) himax w hq hl hr)
    simp only [if_true]
    generalize barE q l rs i = E at *
    clear hm
    go_enter Tryz.func11, Tryz.ntmps11
    go_wp2_with fail
    go_at_call 27; refine (HM.out _ H1.out _ HQ.out.name (HQ.out.boxes.below (by (repeat (first | exact grow_refl _ | refine grow_ext _ ?_ | refine grow_alloc _ ?_ | refine grow_drew ?_)))) (HQ.out.holes.below (by (repeat (first | exact grow_refl _ | refine grow_ext _ ?_ | refine grow_alloc _ ?_ | refine grow_drew ?_))))).mono ?_; rintro e w' ⟨rfl, x1, rfl⟩
    go_wp2_with fail
    go_at_call 22; refine (HB.out _ (HQ.out.below (by (repeat (first | exact grow_refl _ | refine grow_ext _ ?_ | refine grow_alloc _ ?_ | refine grow_drew ?_)))) (HL.out.below (by (repeat (first | exact grow_refl _ | refine grow_ext _ ?_ | refine grow_alloc _ ?_ | refine grow_drew ?_)))) (HR.out.below (by (repeat (first | exact grow_refl _ | refine grow_ext _ ?_ | refine grow_alloc _ ?_ | refine grow_drew ?_))))).mono ?_; rintro e w' ⟨rfl, x2, rfl⟩
    go_wp2
    go_ret2
    exact Ret.of (by (repeat (first | exact grow_refl _ | refine grow_ext _ ?_ | refine grow_alloc _ ?_ | refine grow_drew ?_)))

def countX (q : Mb) (l : List Br) (rs : List Rn) : Int × Int := if mbB q = true then countE l rs else (0, 1)
set_option maxHeartbeats 2000000 in
theorem count18_c (q : Mb) (l : List Br) (rs : List Rn) (v u : Value) (w : World) (hq : MbAt w q) (hl : Bars w v l) (hr : Runs w u rs) :
    Calls Tryz.prog 21 #[(.agg #[.string q.name, q.u, q.t, .int .i64 q.cover, .int .i64 q.agg, .int .i64 q.poker]), v, u] w (Ret w (.tuple #[.int .i64 (countX q l rs).1, .int .i64 (countX q l rs).2])) := by
  have HQ := Lib.hid hq
  have HL := Lib.hid hl
  have HR := Lib.hid hr
  have HM := Lib.hid (fun r h w hs hl hm => solidMember_v q.name q.l q.m q.u q.t q.cover q.agg q.poker r h hs w hl hm)
  have HC := Lib.hid (fun w hl hr => count_c l rs v u w hl hr)
  unfold countX mbB
  generalize countE l rs = E at *
  clear hq hl hr
  cases hm : memberB q.name q.l q.m q.cover q.agg q.poker
  · have H1 := Lib.hid hm
    simp only [Bool.false_eq_true, if_false]
    clear hm
    go_enter Tryz.func21, Tryz.ntmps21
    go_wp2_with fail
    go_at_call 27; refine (HM.out _ H1.out _ HQ.out.name (HQ.out.boxes.below (by (repeat (first | exact grow_refl _ | refine grow_ext _ ?_ | refine grow_alloc _ ?_ | refine grow_drew ?_)))) (HQ.out.holes.below (by (repeat (first | exact grow_refl _ | refine grow_ext _ ?_ | refine grow_alloc _ ?_ | refine grow_drew ?_))))).mono ?_; rintro e w' ⟨rfl, x1, rfl⟩
    go_wp2
    go_ret2
    exact Ret.of (by (repeat (first | exact grow_refl _ | refine grow_ext _ ?_ | refine grow_alloc _ ?_ | refine grow_drew ?_)))
  · have H1 := Lib.hid hm
    simp only [if_true]
    clear hm
    go_enter Tryz.func21, Tryz.ntmps21
    go_wp2_with fail
    go_at_call 27; refine (HM.out _ H1.out _ HQ.out.name (HQ.out.boxes.below (by (repeat (first | exact grow_refl _ | refine grow_ext _ ?_ | refine grow_alloc _ ?_ | refine grow_drew ?_)))) (HQ.out.holes.below (by (repeat (first | exact grow_refl _ | refine grow_ext _ ?_ | refine grow_alloc _ ?_ | refine grow_drew ?_))))).mono ?_; rintro e w' ⟨rfl, x1, rfl⟩
    go_wp2_with fail
    go_at_call 8; refine (HC.out _ (HL.out.below (by (repeat (first | exact grow_refl _ | refine grow_ext _ ?_ | refine grow_alloc _ ?_ | refine grow_drew ?_)))) (HR.out.below (by (repeat (first | exact grow_refl _ | refine grow_ext _ ?_ | refine grow_alloc _ ?_ | refine grow_drew ?_))))).mono ?_; rintro e w' ⟨rfl, x2, rfl⟩
    go_wp2
    go_ret2
    exact Ret.of (by (repeat (first | exact grow_refl _ | refine grow_ext _ ?_ | refine grow_alloc _ ?_ | refine grow_drew ?_)))

end Go.Proofs.YtmhhohancconaaaGreat

namespace Go.Proofs.YtmhhohancconaaaGreat
open Go.RowKit
set_option maxRecDepth 20000

theorem countX_ok {q : Mb} {l : List Br} {rs : List Rn} (hm : mbB q = true) (hv : laidB l rs = true) : countX q l rs = (countS rs, 0) := by
  unfold countX countE; rw [if_pos hm, if_pos hv]
theorem countX_err {q : Mb} {l : List Br} {rs : List Rn} (h : ¬ (mbB q = true ∧ laidB l rs = true)) : countX q l rs = (0, 1) := by
  unfold countX countE
  by_cases hm : mbB q = true
  · rw [if_pos hm, if_neg (fun hv => h ⟨hm, hv⟩)]
  · rw [if_neg hm]

set_option maxHeartbeats 2000000 in
theorem Check18_err (q : Mb) (l : List Br) (rs : List Rn) (v u : Value) (h : ¬ (mbB q = true ∧ laidB l rs = true)) (w : World) (hq : MbAt w q) (hl : Bars w v l) (hr : Runs w u rs) :
    Calls Tryz.prog 7 #[(.agg #[.string q.name, q.u, q.t, .int .i64 q.cover, .int .i64 q.agg, .int .i64 q.poker]), v, u] w (RetFds w [] 1) := by
  have HQ := Lib.hid hq
  have HL := Lib.hid hl
  have HR := Lib.hid hr
  have HC := Lib.hid (fun w hq hl hr => count18_c q l rs v u w hq hl hr)
  rw [countX_err h] at HC
  clear hq hl hr h
  go_enter Tryz.func7, Tryz.ntmps7
  go_wp2_with fail
  go_at_call 21; refine (HC.out _ (HQ.out.below (by (repeat (first | exact grow_refl _ | refine grow_ext _ ?_ | refine grow_alloc _ ?_ | refine grow_drew ?_)))) (HL.out.below (by (repeat (first | exact grow_refl _ | refine grow_ext _ ?_ | refine grow_alloc _ ?_ | refine grow_drew ?_)))) (HR.out.below (by (repeat (first | exact grow_refl _ | refine grow_ext _ ?_ | refine grow_alloc _ ?_ | refine grow_drew ?_))))).mono ?_; rintro e w' ⟨rfl, x1, rfl⟩
  go_wp2
  go_ret2
  exact ⟨_, rfl, World.ownsRow_nil _ _ _ _, ext_of (by (repeat (first | exact grow_refl _ | refine grow_ext _ ?_ | refine grow_alloc _ ?_ | refine grow_drew ?_)))⟩

set_option maxRecDepth 100000 in
set_option maxHeartbeats 4000000 in
theorem Check18_ok (q : Mb) (l : List Br) (rs : List Rn) (v u : Value) (hmb : mbB q = true) (hv : laidB l rs = true) (hc : countS rs ≤ 1000) (w : World) (hq : MbAt w q) (hl : Bars w v l) (hr : Runs w u rs) :
    Calls Tryz.prog 7 #[(.agg #[.string q.name, q.u, q.t, .int .i64 q.cover, .int .i64 q.agg, .int .i64 q.poker]), v, u] w (RetFds w (coverTo q l rs (countS rs).toNat) 0) := by
  have HQ := Lib.hid hq
  have HL := Lib.hid hl
  have HR := Lib.hid hr
  have HC := Lib.hid (fun w hq hl hr => count18_c q l rs v u w hq hl hr)
  rw [countX_ok hmb hv] at HC
  have hcl := count_le hv rs.length
  rw [List.take_length] at hcl
  obtain ⟨k0, _, k2⟩ := hcl
  have HB := Lib.hid (show ∀ k : Nat, (k : Int) < countS rs → ∀ w, MbAt w q → Bars w v l → Runs w u rs → Calls Tryz.prog 22 #[(.agg #[.string q.name, q.u, q.t, .int .i64 q.cover, .int .i64 q.agg, .int .i64 q.poker]), v, u, .int .i64 k] w (Ret w (.tuple #[.int .i64 (barI q l rs k), .string (markI rs k), .int .i64 0])) from fun k hk w hq hl hr => by
    have := bar18_c q l rs v u k (mb_solid hmb) (by omega) w hq hl hr
    rw [show barE q l rs k = (barI q l rs k, markI rs k, 0) by unfold barE; rw [if_pos hv, if_pos ⟨by omega, hk⟩]] at this
    exact this)
  have HCT := Lib.hid (fun n => coverTo_succ q l rs n)
  have HCL := Lib.hid (fun n => coverTo_len q l rs n)
  have HBI := Lib.hid (fun k : Nat => barI_in q l rs k)
  generalize hN : countS rs = N at *
  clear hq hl hr hmb hv hN
  go_enter Tryz.func7, Tryz.ntmps7
  go_wp2_with fail
  go_at_call 21; refine (HC.out _ (HQ.out.below (by (repeat (first | exact grow_refl _ | refine grow_ext _ ?_ | refine grow_alloc _ ?_ | refine grow_drew ?_)))) (HL.out.below (by (repeat (first | exact grow_refl _ | refine grow_ext _ ?_ | refine grow_alloc _ ?_ | refine grow_drew ?_)))) (HR.out.below (by (repeat (first | exact grow_refl _ | refine grow_ext _ ?_ | refine grow_alloc _ ?_ | refine grow_drew ?_))))).mono ?_; rintro e w' ⟨rfl, x1, rfl⟩
  go_wp2_with fail
  refine world_mask (fun W => (∃ z, W = ext w z) ∧ MCells W w.heap.size q) _ ⟨ext_of (by (repeat (first | exact grow_refl _ | refine grow_ext _ ?_ | refine grow_alloc _ ?_ | refine grow_drew ?_))), by simp [MCells, go_sem]⟩ ?_
  rintro W1 ⟨hbe, hm1⟩
  have HBE := Lib.hid (show Below w.heap.size w W1 by obtain ⟨z, rfl⟩ := hbe; exact below_ext _ _)
  have HM1 := Lib.hid hm1
  clear hbe hm1
  go_loopw [10, 26] (fun v i wr => ∃ k : Nat, (k : Int) ≤ N ∧ i = .int .i64 k ∧ (∃ z, wr = ext W1 z) ∧ wr.ownsRow W1.heap.size 47 2 v (coverTo q l rs k).length (fdCells (coverTo q l rs k))) (fun _ i _ => N.toNat - (intOf i).toNat)
  case atStart => exact ⟨0, by omega, rfl, ext_of (Below.refl _ _), World.ownsRow_nil _ _ _ _⟩
  case round =>
    obtain ⟨k, hk, rfl, ⟨z, rfl⟩, hown⟩ := hrel
    have HO := Lib.hid hown
    obtain ⟨av, cv, rfl, hv1, hv2, -⟩ := own_shape hown
    have hv3 : cv ≤ 9223372036854775807 := hv2
    have hcl := HCL.out k
    have HBZ := Lib.hid (show Below w.heap.size w (ext W1 z) from HBE.out.trans ((below_ext W1 z).mono HBE.out.size))
    clear hown
    by_cases hlt : (k : Int) < N
    · have q1 : (0 : Int) ≤ (k : Int) := by omega
      obtain ⟨m0, m1, m2, m3, m4, m5⟩ := HM1.out.ext z
      have HBK := Lib.hid (HB.out k hlt)
      have HCS := Lib.hid (HCT.out k)
      have hbi := HBI.out k
      generalize coverTo q l rs k = CT at *
      generalize barI q l rs k = C at *
      generalize markI rs k = MK at *
      go_wp2_with fail
      go_at_call 22; refine (HBK.out _ (HQ.out.below HBZ.out) (HL.out.below HBZ.out) (HR.out.below HBZ.out)).mono ?_; rintro e w' ⟨rfl, y1, rfl⟩
      have HOY := Lib.hid (own_ext HO.out y1)
      have HZY := Lib.hid (show ∃ z', ext (ext W1 z) y1 = ext W1 z' from ⟨_, ext_ext _ _ _⟩)
      have n3 := cell_ext_some m3 y1
      by_cases hlc : C < q.cover
      · have HCS := Lib.hid (show coverTo q l rs (k + 1) = CT ++ [MK] by rw [HCS.out, if_pos hlc])
        clear m0 m1 m2 m4 m5
        go_wp2_with (at_builtin; refine app_own_b rfl _ _ 34 rfl 47 (.agg #[.int .i64 0, .string ⟨#[]⟩]) 2 24 Tryz.underlying34 info_fd rfl (by decide) (W1.heap.size) (.slice av CT.length cv) (CT.length) (fdCells CT) _ rfl (HOY.out.alloc _) _ 1 1 (fdCells [MK]) rfl rfl (cells_new ?_ _ _ _ rfl) (fdCells_one _) (by omega) (by decide) ?_ ?_; (first | rfl | simp [size_ext]); (simp only [World.size_alloc, size_ext]; omega); intro v' w1 hown' hgrow; have HO2 := Lib.hid hown'; obtain ⟨a', c', rfl, _, hc2, -⟩ := own_shape hown'; have hc3 : c' ≤ 9223372036854775807 := hc2; have HGR := Lib.hid hgrow; clear hown' hgrow hc2)
        go_roundw
        case rel =>
          refine ⟨k + 1, by omega, by go_num, ?_, ?_⟩
          · obtain ⟨zz, ez⟩ := HZY.out
            have hg := HGR.out
            rw [ez] at hg
            exact ext_grown2 (grow_alloc _ (below_ext _ _)) hg (fun j e => (HOY.out.lt j e).1)
          · rw [HCS.out]
            exact own_fds HO2.out rfl
        case measure => simp [intOf]; omega
      · have HCS := Lib.hid (show coverTo q l rs (k + 1) = CT by rw [HCS.out, if_neg hlc]; simp)
        clear m0 m1 m2 m4 m5
        go_wp2
        go_roundw
        case rel => exact ⟨k + 1, by omega, by go_num, HZY.out, by rw [HCS.out]; exact HOY.out⟩
        case measure => simp [intOf]; omega
    · obtain rfl : k = N.toNat := by omega
      have dn : decide ((1000 : Int) < ((coverTo q l rs N.toNat).length : Int)) = false := by simp; omega
      go_wp2
      go_ret2
      exact ⟨_, rfl, own_mono HO.out HBE.out.size, ext_of HBZ.out⟩

/-- cover.Least: a number, a cover, an error. -/
def leastX (q : Mb) (l : List Br) (rs : List Rn) : Int × Int × Int :=
  if mbB q = true ∧ laidB l rs = true then (if countS rs = 0 then (0, 0, 14) else (((leastTo q l rs (countS rs).toNat).1 : Int), (leastTo q l rs (countS rs).toNat).2, 0)) else (0, 0, 1)
end Go.Proofs.YtmhhohancconaaaGreat

namespace Go.Proofs.YtmhhohancconaaaGreat
open Go.RowKit
set_option maxRecDepth 20000

theorem run_bar_size' (mark : ByteArray) (size count code : Int) (ad : Option Addr) (n cd : Nat) (w : World) :
    (Instr.field 51 (.agg #[.string mark, .int .i64 size, .int .i64 count, .int .i64 code, .slice ad n cd]) 1).run Tryz.prog w = .ok (.int .i64 size) w := by kernel_rfl
theorem run_bar_mark' (mark : ByteArray) (size count code : Int) (ad : Option Addr) (n cd : Nat) (w : World) :
    (Instr.field 51 (.agg #[.string mark, .int .i64 size, .int .i64 count, .int .i64 code, .slice ad n cd]) 0).run Tryz.prog w = .ok (.string mark) w := by kernel_rfl
attribute [local go_sem] run_bar_size' run_bar_mark'

/-- The bar of a laid bar: its mark, and its dimensions as a slice. -/
theorem bar_form {l : List Br} {rs : List Rn} {v : Value} {w : World} (hv : laidB l rs = true) (hl : Bars w v l) {i : Int} (h0 : 0 ≤ i) (hi : i < countS rs) :
    ∃ count code ad n cd dims, barOf l (markI rs i) = ⟨markI rs i, sizeI l rs i, count, code, dims, .slice ad n cd⟩ := by
  obtain ⟨qq, hqq, eb⟩ := List.getElem_of_mem (bar_mem (mark_of hv h0 hi).2.1)
  obtain ⟨_, _, -, -, -, g4⟩ := hl.shape
  obtain ⟨ad, cd, ev, -, -, -⟩ := (g4 qq hqq).1.dims
  rw [eb] at ev
  have hmk : (barOf l (markI rs i)).mark = markI rs i := by
    have hf := (mark_of hv h0 hi).2.1
    rcases findI_cases l (markI rs i) with ⟨e1, -⟩ | ⟨q, hq, e1, e2, -⟩
    · omega
    · unfold barOf
      rw [e1]
      have := sEq_iff.1 e2
      simpa [List.getD, hq] using this
  have hsz : (barOf l (markI rs i)).size = sizeI l rs i := rfl
  generalize barOf l (markI rs i) = b at *
  obtain ⟨mark, size, count, code, dims, dv⟩ := b
  simp only at *
  subst hmk hsz ev
  exact ⟨_, _, _, _, _, _, rfl⟩

end Go.Proofs.YtmhhohancconaaaGreat

