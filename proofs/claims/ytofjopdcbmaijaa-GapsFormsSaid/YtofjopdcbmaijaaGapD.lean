/- gaps.cuts with its errors; gaps.Row. -/
import Derived.Test.YtofjopdcbmaijaaGapC
namespace Go.Proofs.Ytofjopdcbmaijaa
open Go.RowKit
set_option maxRecDepth 20000

set_option maxHeartbeats 1000000 in
theorem cuts_c (l : List Br) (rs : List Rn) (v u : Value) (x : Int) (w : World) (hl : Bars w v l) (hr : Runs w u rs) :
    Calls Try.prog 28 #[v, u, .int .i64 x] w (RetCts w (cutsE l rs x).1 (cutsE l rs x).2) := by
  unfold cutsE
  by_cases hv : laidB l rs = true
  · rw [if_pos hv]
    cases hx : inI x (-1048576) 1048576
    · simp only [Bool.false_eq_true, if_false]
      have HL := Lib.hid hl
      have HR := Lib.hid hr
      have HX := Lib.hid hx
      have HC := Lib.hid (fun w hl hr => count_c l rs v u w hl hr)
      rw [show countE l rs = (countS rs, 0) by unfold countE; rw [if_pos hv]] at HC
      clear hl hr hx hv
      generalize countS rs = N at *
      go_enter Try.func28, Try.ntmps28
      go_wp2_with fail
      go_at_call 39; refine (HC.out _ (HL.out.below (by (repeat (first | exact grow_refl _ | refine grow_ext _ ?_ | refine grow_alloc _ ?_ | refine grow_drew ?_)))) (HR.out.below (by (repeat (first | exact grow_refl _ | refine grow_ext _ ?_ | refine grow_alloc _ ?_ | refine grow_drew ?_))))).mono ?_; rintro e w' ⟨rfl, x1, rfl⟩
      go_wp2_with fail
      go_at_call 40; refine (gplace_v _ _ HX.out _).mono ?_; rintro e w' ⟨rfl, x2, rfl⟩
      go_wp2
      go_ret2
      exact ⟨_, rfl, World.ownsRow_nil _ _ _ _, ext_of (by (repeat (first | exact grow_refl _ | refine grow_ext _ ?_ | refine grow_alloc _ ?_ | refine grow_drew ?_)))⟩
    · simp only [if_true]
      exact cuts_ok l rs v u x hv hx w hl hr
  · rw [if_neg hv]
    have HL := Lib.hid hl
    have HR := Lib.hid hr
    have HC := Lib.hid (fun w hl hr => count_c l rs v u w hl hr)
    rw [show countE l rs = (0, 1) by unfold countE; rw [if_neg hv]] at HC
    clear hl hr hv
    go_enter Try.func28, Try.ntmps28
    go_wp2_with fail
    go_at_call 39; refine (HC.out _ (HL.out.below (by (repeat (first | exact grow_refl _ | refine grow_ext _ ?_ | refine grow_alloc _ ?_ | refine grow_drew ?_)))) (HR.out.below (by (repeat (first | exact grow_refl _ | refine grow_ext _ ?_ | refine grow_alloc _ ?_ | refine grow_drew ?_))))).mono ?_; rintro e w' ⟨rfl, x1, rfl⟩
    go_wp2
    go_ret2
    exact ⟨_, rfl, World.ownsRow_nil _ _ _ _, ext_of (by (repeat (first | exact grow_refl _ | refine grow_ext _ ?_ | refine grow_alloc _ ?_ | refine grow_drew ?_)))⟩

theorem cutsE_err {l : List Br} {rs : List Rn} {x : Int} (h : (cutsE l rs x).2 ≠ 0) : (cutsE l rs x).1 = [] := by
  unfold cutsE at h ⊢
  split
  · rename_i h1; rw [if_pos h1] at h
    split
    · rename_i h2; rw [if_pos h2] at h; exact absurd rfl h
    · rfl
  · rfl
theorem cutsE_len (l : List Br) (rs : List Rn) (x : Int) : (cutsE l rs x).1.length ≤ 12000 := by
  unfold cutsE
  split
  · rename_i h
    split
    · have h1 := cutsTo_len l rs x (countS rs).toNat
      have h2 := count_le h rs.length
      show (cutsTo l rs x (countS rs).toNat).length ≤ _
      omega
    · exact Nat.zero_le _
  · exact Nat.zero_le _

set_option maxRecDepth 100000 in
set_option maxHeartbeats 2000000 in
theorem gRow_c (l : List Br) (rs : List Rn) (v u : Value) (x : Int) (w : World) (hl : Bars w v l) (hr : Runs w u rs) :
    Calls Try.prog 18 #[v, u, .int .i64 x] w (RetBxs w ((cutsE l rs x).1.map Ct.box) (cutsE l rs x).2) := by
  have HC := Lib.hid (fun w hl hr => cuts_c l rs v u x w hl hr)
  have HL := Lib.hid hl
  have HR := Lib.hid hr
  have hz := cutsE_err (l := l) (rs := rs) (x := x)
  have hlen := cutsE_len l rs x
  generalize (cutsE l rs x).1 = L at *
  generalize (cutsE l rs x).2 = E at *
  clear hl hr
  by_cases he : E = 0
  · subst he
    clear hz
    go_enter Try.func18, Try.ntmps18
    go_wp2_with fail
    go_at_call 28; refine (HC.out _ (HL.out.below (by (repeat (first | exact grow_refl _ | refine grow_ext _ ?_ | refine grow_alloc _ ?_ | refine grow_drew ?_)))) (HR.out.below (by (repeat (first | exact grow_refl _ | refine grow_ext _ ?_ | refine grow_alloc _ ?_ | refine grow_drew ?_))))).mono ?_; rintro e w' ⟨v8, rfl, hown, x1, rfl⟩
    obtain ⟨a, cap, rfl, h2, h3, h4⟩ := Cts.of_own hown
    have H4 := Lib.hid h4
    clear h4 hown
    go_wp2_with fail
    go_loopw [10, 25] (fun v i wr => ∃ k : Nat, k ≤ L.length ∧ i = .int .i64 k ∧ (∃ y, wr = ext (ext w x1) y) ∧ wr.ownsRow (ext w x1).heap.size 52 6 v k (boxCells ((L.take k).map Ct.box))) (fun _ i _ => L.length - (intOf i).toNat)
    case atStart => exact ⟨0, by omega, rfl, ext_of (Below.refl _ _), World.ownsRow_nil _ _ _ _⟩
    case round =>
      obtain ⟨k, hk, rfl, ⟨y, rfl⟩, hown⟩ := hrel
      have HO := Lib.hid hown
      obtain ⟨av, cv, rfl, hv1, hv2, -⟩ := own_shape hown
      have hv3 : cv ≤ 9223372036854775807 := hv2
      clear hown
      by_cases hlt : k < L.length
      · obtain ⟨b0, off, rfl, hct⟩ := H4.out k hlt
        have q1 : (0 : Int) ≤ (k : Int) := by omega
        have q2 : (k : Int) < (L.length : Int) := by omega
        have htk : (L.take (k + 1)).map Ct.box = (L.take k).map Ct.box ++ [(L[k]).box] := by rw [List.take_succ_eq_append_getElem hlt, List.map_append]; rfl
        have HLN := Lib.hid (show k = ((L.take k).map Ct.box).length by rw [List.length_map, List.length_take]; omega)
        obtain ⟨c, hc⟩ : ∃ c, L[k] = c := ⟨_, rfl⟩
        rw [hc] at hct htk
        obtain ⟨c0, c1, c2, c3, c4, c5, c6, c7⟩ := hct.ext y
        obtain ⟨⟨lx, ly, lz, hx, hy, hz⟩, size, mark⟩ := c
        simp only at c0 c1 c2 c3 c4 c5 c6 c7 htk
        have HTK := Lib.hid htk
        clear hc hct htk
        go_wp2_with (at_builtin; refine app_own_b rfl _ _ 48 rfl 52 (.agg #[.int .i64 0, .int .i64 0, .int .i64 0, .int .i64 0, .int .i64 0, .int .i64 0]) 6 48 Try.underlying48 info_box' rfl (by decide) ((ext w x1).heap.size) (.slice av k cv) (k) (boxCells ((L.take k).map Ct.box)) _ rfl ((HO.out.alloc _).alloc _) _ 1 1 (boxCells [(⟨lx, ly, lz, hx, hy, hz⟩ : Bx)]) rfl rfl (cells_new ?_ _ _ _ rfl) (boxCells_one _) (by omega) (by decide) ?_ ?_; (first | rfl | simp [size_ext]); (simp only [World.size_alloc, size_ext]; omega); intro v' w1 hown' hgrow; have HO2 := Lib.hid hown'; obtain ⟨a', c', rfl, _, hc2, -⟩ := own_shape hown'; have hc3 : c' ≤ 9223372036854775807 := hc2; have HGR := Lib.hid hgrow; clear hown' hgrow hc2)
        go_roundw
        case rel =>
          refine ⟨k + 1, by omega, by go_num, ?_, ?_⟩
          · exact ext_grown2 (grow_alloc _ (grow_alloc _ (below_ext _ _))) HGR.out (fun j e => (HO.out.lt j e).1)
          · rw [HTK.out]
            have := own_bxs HO2.out HLN.out
            rw [List.length_append, ← HLN.out] at this
            exact this
        case measure => simp [intOf]; omega
      · obtain rfl : k = L.length := by omega
        go_wp2
        go_ret2
        exact ⟨_, rfl, by have := HO.out; rw [List.take_length] at this; rw [List.length_map]; exact own_mono this (by simp only [size_ext]; omega), ext_of (by (repeat (first | exact grow_refl _ | refine grow_ext _ ?_ | refine grow_alloc _ ?_ | refine grow_drew ?_)))⟩
  · obtain rfl := hz he
    have d1 : (E != 0) = true := by simpa using he
    clear hz he
    go_enter Try.func18, Try.ntmps18
    go_wp2_with fail
    go_at_call 28; refine (HC.out _ (HL.out.below (by (repeat (first | exact grow_refl _ | refine grow_ext _ ?_ | refine grow_alloc _ ?_ | refine grow_drew ?_)))) (HR.out.below (by (repeat (first | exact grow_refl _ | refine grow_ext _ ?_ | refine grow_alloc _ ?_ | refine grow_drew ?_))))).mono ?_; rintro e w' ⟨v8, rfl, hown, x1, rfl⟩
    obtain ⟨a8, c8, rfl, -, -, -⟩ := own_shape hown
    clear hown
    go_wp2
    go_ret2
    exact ⟨_, rfl, World.ownsRow_nil _ _ _ _, ext_of (by (repeat (first | exact grow_refl _ | refine grow_ext _ ?_ | refine grow_alloc _ ?_ | refine grow_drew ?_)))⟩

end Go.Proofs.Ytofjopdcbmaijaa
