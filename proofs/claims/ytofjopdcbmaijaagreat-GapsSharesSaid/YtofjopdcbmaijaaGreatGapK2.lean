/- GapD, GapE, GapF in one text. -/
import Derived.Test.YtofjopdcbmaijaaGreatGapC
import Derived.Test.YtofjopdcbmaijaaGreatExtK
import Derived.Test.YtofjopdcbmaijaaGreatFds
namespace Go.Proofs.YtofjopdcbmaijaaGreat
open Go.RowKit
set_option maxRecDepth 20000

set_option maxHeartbeats 1000000 in
theorem cuts_c (l : List Br) (rs : List Rn) (v u : Value) (x : Int) (w : World) (hl : Bars w v l) (hr : Runs w u rs) :
    Calls Tryz.prog 33 #[v, u, .int .i64 x] w (RetCts w (cutsE l rs x).1 (cutsE l rs x).2) := by
  unfold cutsE
  by_cases hv : laidB l rs = true
  · rw [if_pos hv]
    cases hx : inI x (-1048576) 1048576
    · simp only [Bool.false_eq_true, if_false]
      have HL := Lib.hid hl
      have HR := Lib.hid hr
      have HX := Lib.hid hx
      have HC := Lib.hid (fun w hl hr => count_c l rs v u w hl hr)
      rw [show countE l rs = (countS rs, 0) by unfold countE; rw [if_pos hv]] at HC
      clear hl hr hx hv
      generalize countS rs = N at *
      go_enter Tryz.func33, Tryz.ntmps33
      go_wp2_with fail
      go_at_call 71; refine (HC.out _ (HL.out.below (by (repeat (first | exact grow_refl _ | refine grow_ext _ ?_ | refine grow_alloc _ ?_ | refine grow_drew ?_)))) (HR.out.below (by (repeat (first | exact grow_refl _ | refine grow_ext _ ?_ | refine grow_alloc _ ?_ | refine grow_drew ?_))))).mono ?_; rintro e w' ⟨rfl, x1, rfl⟩
      go_wp2_with fail
      go_at_call 72; refine (gplace_v _ _ HX.out _).mono ?_; rintro e w' ⟨rfl, x2, rfl⟩
      go_wp2
      go_ret2
      exact ⟨_, rfl, World.ownsRow_nil _ _ _ _, ext_of (by (repeat (first | exact grow_refl _ | refine grow_ext _ ?_ | refine grow_alloc _ ?_ | refine grow_drew ?_)))⟩
    · simp only [if_true]
      exact cuts_ok l rs v u x hv hx w hl hr
  · rw [if_neg hv]
    have HL := Lib.hid hl
    have HR := Lib.hid hr
    have HC := Lib.hid (fun w hl hr => count_c l rs v u w hl hr)
    rw [show countE l rs = (0, 1) by unfold countE; rw [if_neg hv]] at HC
    clear hl hr hv
    go_enter Tryz.func33, Tryz.ntmps33
    go_wp2_with fail
    go_at_call 71; refine (HC.out _ (HL.out.below (by (repeat (first | exact grow_refl _ | refine grow_ext _ ?_ | refine grow_alloc _ ?_ | refine grow_drew ?_)))) (HR.out.below (by (repeat (first | exact grow_refl _ | refine grow_ext _ ?_ | refine grow_alloc _ ?_ | refine grow_drew ?_))))).mono ?_; rintro e w' ⟨rfl, x1, rfl⟩
    go_wp2
    go_ret2
    exact ⟨_, rfl, World.ownsRow_nil _ _ _ _, ext_of (by (repeat (first | exact grow_refl _ | refine grow_ext _ ?_ | refine grow_alloc _ ?_ | refine grow_drew ?_)))⟩

theorem cutsE_err {l : List Br} {rs : List Rn} {x : Int} (h : (cutsE l rs x).2 ≠ 0) : (cutsE l rs x).1 = [] := by
  unfold cutsE at h ⊢
  split
  · rename_i h1; rw [if_pos h1] at h
    split
    · rename_i h2; rw [if_pos h2] at h; exact absurd rfl h
    · rfl
  · rfl
theorem cutsE_len (l : List Br) (rs : List Rn) (x : Int) : (cutsE l rs x).1.length ≤ 12000 := by
  unfold cutsE
  split
  · rename_i h
    split
    · have h1 := cutsTo_len l rs x (countS rs).toNat
      have h2 := count_le h rs.length
      show (cutsTo l rs x (countS rs).toNat).length ≤ _
      omega
    · exact Nat.zero_le _
  · exact Nat.zero_le _

set_option maxRecDepth 100000 in
set_option maxHeartbeats 2000000 in
theorem gRow_c (l : List Br) (rs : List Rn) (v u : Value) (x : Int) (w : World) (hl : Bars w v l) (hr : Runs w u rs) :
    Calls Tryz.prog 8 #[v, u, .int .i64 x] w (RetBxs w ((cutsE l rs x).1.map Ct.box) (cutsE l rs x).2) := by
  have HC := Lib.hid (fun w hl hr => cuts_c l rs v u x w hl hr)
  have HL := Lib.hid hl
  have HR := Lib.hid hr
  have hz := cutsE_err (l := l) (rs := rs) (x := x)
  have hlen := cutsE_len l rs x
  generalize (cutsE l rs x).1 = L at *
  generalize (cutsE l rs x).2 = E at *
  clear hl hr
  by_cases he : E = 0
  · subst he
    clear hz
    go_enter Tryz.func8, Tryz.ntmps8
    go_wp2_with fail
    go_at_call 33; refine (HC.out _ (HL.out.below (by (repeat (first | exact grow_refl _ | refine grow_ext _ ?_ | refine grow_alloc _ ?_ | refine grow_drew ?_)))) (HR.out.below (by (repeat (first | exact grow_refl _ | refine grow_ext _ ?_ | refine grow_alloc _ ?_ | refine grow_drew ?_))))).mono ?_; rintro e w' ⟨v8, rfl, hown, x1, rfl⟩
    obtain ⟨a, cap, rfl, h2, h3, h4⟩ := Cts.of_own hown
    have H4 := Lib.hid h4
    clear h4 hown
    go_wp2_with fail
    go_loopw [10, 25] (fun v i wr => ∃ k : Nat, k ≤ L.length ∧ i = .int .i64 k ∧ (∃ y, wr = ext (ext w x1) y) ∧ wr.ownsRow (ext w x1).heap.size 38 6 v k (boxCells ((L.take k).map Ct.box))) (fun _ i _ => L.length - (intOf i).toNat)
    case atStart => exact ⟨0, by omega, rfl, ext_of (Below.refl _ _), World.ownsRow_nil _ _ _ _⟩
    case round =>
      obtain ⟨k, hk, rfl, ⟨y, rfl⟩, hown⟩ := hrel
      have HO := Lib.hid hown
      obtain ⟨av, cv, rfl, hv1, hv2, -⟩ := own_shape hown
      have hv3 : cv ≤ 9223372036854775807 := hv2
      clear hown
      by_cases hlt : k < L.length
      · obtain ⟨b0, off, rfl, hct⟩ := H4.out k hlt
        have q1 : (0 : Int) ≤ (k : Int) := by omega
        have q2 : (k : Int) < (L.length : Int) := by omega
        have htk : (L.take (k + 1)).map Ct.box = (L.take k).map Ct.box ++ [(L[k]).box] := by rw [List.take_succ_eq_append_getElem hlt, List.map_append]; rfl
        have HLN := Lib.hid (show k = ((L.take k).map Ct.box).length by rw [List.length_map, List.length_take]; omega)
        obtain ⟨c, hc⟩ : ∃ c, L[k] = c := ⟨_, rfl⟩
        rw [hc] at hct htk
        obtain ⟨c0, c1, c2, c3, c4, c5, c6, c7⟩ := hct.ext y
        obtain ⟨⟨lx, ly, lz, hx, hy, hz⟩, size, mark⟩ := c
        simp only at c0 c1 c2 c3 c4 c5 c6 c7 htk
        have HTK := Lib.hid htk
        clear hc hct htk
        go_wp2_with (at_builtin; refine app_own_b rfl _ _ 26 rfl 38 (.agg #[.int .i64 0, .int .i64 0, .int .i64 0, .int .i64 0, .int .i64 0, .int .i64 0]) 6 48 Tryz.underlying26 info_box' rfl (by decide) ((ext w x1).heap.size) (.slice av k cv) (k) (boxCells ((L.take k).map Ct.box)) _ rfl ((HO.out.alloc _).alloc _) _ 1 1 (boxCells [(⟨lx, ly, lz, hx, hy, hz⟩ : Bx)]) rfl rfl (cells_new ?_ _ _ _ rfl) (boxCells_one _) (by omega) (by decide) ?_ ?_; (first | rfl | simp [size_ext]); (simp only [World.size_alloc, size_ext]; omega); intro v' w1 hown' hgrow; have HO2 := Lib.hid hown'; obtain ⟨a', c', rfl, _, hc2, -⟩ := own_shape hown'; have hc3 : c' ≤ 9223372036854775807 := hc2; have HGR := Lib.hid hgrow; clear hown' hgrow hc2)
        go_roundw
        case rel =>
          refine ⟨k + 1, by omega, by go_num, ?_, ?_⟩
          · exact ext_grown2 (grow_alloc _ (grow_alloc _ (below_ext _ _))) HGR.out (fun j e => (HO.out.lt j e).1)
          · rw [HTK.out]
            have := own_bxs HO2.out HLN.out
            rw [List.length_append, ← HLN.out] at this
            exact this
        case measure => simp [intOf]; omega
      · obtain rfl : k = L.length := by omega
        go_wp2
        go_ret2
        exact ⟨_, rfl, by have := HO.out; rw [List.take_length] at this; rw [List.length_map]; exact own_mono this (by simp only [size_ext]; omega), ext_of (by (repeat (first | exact grow_refl _ | refine grow_ext _ ?_ | refine grow_alloc _ ?_ | refine grow_drew ?_)))⟩
  · obtain rfl := hz he
    have d1 : (E != 0) = true := by simpa using he
    clear hz he
    go_enter Tryz.func8, Tryz.ntmps8
    go_wp2_with fail
    go_at_call 33; refine (HC.out _ (HL.out.below (by (repeat (first | exact grow_refl _ | refine grow_ext _ ?_ | refine grow_alloc _ ?_ | refine grow_drew ?_)))) (HR.out.below (by (repeat (first | exact grow_refl _ | refine grow_ext _ ?_ | refine grow_alloc _ ?_ | refine grow_drew ?_))))).mono ?_; rintro e w' ⟨v8, rfl, hown, x1, rfl⟩
    obtain ⟨a8, c8, rfl, -, -, -⟩ := own_shape hown
    clear hown
    go_wp2
    go_ret2
    exact ⟨_, rfl, World.ownsRow_nil _ _ _ _, ext_of (by (repeat (first | exact grow_refl _ | refine grow_ext _ ?_ | refine grow_alloc _ ?_ | refine grow_drew ?_)))⟩

end Go.Proofs.YtofjopdcbmaijaaGreat

namespace Go.Proofs.YtofjopdcbmaijaaGreat
open Go.RowKit
set_option maxRecDepth 20000

def noCt : Ct := ⟨⟨0, 0, 0, 0, 0, 0⟩, 0, ⟨#[]⟩⟩
def gapK (L : List Ct) (i k : Nat) : Int := gapB (L.getD i noCt).box (L.getD k noCt).box
def clrIn (L : List Ct) (i k : Nat) (b : Int) : Int := (List.range k).foldl (fun b k => min b (gapK L i k)) b
def clrTo (L : List Ct) (n : Nat) (b : Int) : Int := (List.range n).foldl (fun b i => clrIn L i i b) b
def clearI (L : List Ct) : Int := clrTo L L.length (gapK L 0 1)
theorem clrIn_succ (L : List Ct) (i k : Nat) (b : Int) : clrIn L i (k + 1) b = min (clrIn L i k b) (gapK L i k) := by
  unfold clrIn; rw [List.range_succ, List.foldl_append]; rfl
theorem clrTo_succ (L : List Ct) (n : Nat) (b : Int) : clrTo L (n + 1) b = clrIn L n n (clrTo L n b) := by
  unfold clrTo; rw [List.range_succ, List.foldl_append]; rfl
theorem cutsE_small {l : List Br} {rs : List Rn} {x : Int} : ∀ c ∈ (cutsE l rs x).1, SmallB c.box ∧ sizeB c.size = true := by
  unfold cutsE
  by_cases hv : laidB l rs = true
  · rw [if_pos hv]
    by_cases hx : inI x (-1048576) 1048576 = true
    · rw [if_pos hx]
      intro c hc
      have hc' : c ∈ cutsTo l rs x (countS rs).toNat := hc
      unfold cutsTo at hc'
      obtain ⟨i, hi, hci⟩ := List.mem_flatMap.1 hc'
      have hi := List.mem_range.1 hi
      have h0 := (count_le hv rs.length).1
      rw [List.take_length] at h0
      have h1 : (0 : Int) ≤ (i : Int) := by omega
      have h2 : (i : Int) < countS rs := by omega
      unfold cutsAt at hci
      obtain ⟨b, hb, hcb⟩ := List.mem_filterMap.1 hci
      have hbv := valid_iff.1 (legsI_valid hv h1 h2 b hb)
      have hsz := size_of hv h1 h2
      unfold cutOf at hcb
      split at hcb
      · cases hcb
        refine ⟨?_, hsz⟩
        have hd := size_iff.1 hsz
        have hh : 0 ≤ halfI (sizeI l rs i) ∧ halfI (sizeI l rs i) ≤ 20 := by unfold halfI; omega
        unfold SmallB cutBox; simp only; omega
      · cases hcb
    · rw [if_neg hx]; intro c hc; cases hc
  · rw [if_neg hv]; intro c hc; cases hc
theorem getD_lt {α : Type} {L : List α} {i : Nat} {z : α} (h : i < L.length) : L.getD i z = L[i] := by simp [List.getD, h]
theorem gapK_bound {L : List Ct} (h : ∀ c ∈ L, SmallB c.box) {i k : Nat} (hi : i < L.length) (hk : k < L.length) : -8000000 ≤ gapK L i k ∧ gapK L i k ≤ 8000000 := by
  unfold gapK
  rw [getD_lt hi, getD_lt hk]
  have h1 := h _ (List.getElem_mem hi)
  have h2 := h _ (List.getElem_mem hk)
  unfold SmallB at h1 h2
  unfold gapB; omega

def clearE (l : List Br) (rs : List Rn) (x : Int) : Int × Int := if (cutsE l rs x).2 = 0 then (if (cutsE l rs x).1.length < 2 then (0, 12) else (clearI (cutsE l rs x).1, 0)) else (0, (cutsE l rs x).2)

set_option maxRecDepth 100000 in
set_option maxHeartbeats 4000000 in
theorem gClear_v (l : List Br) (rs : List Rn) (v u : Value) (x r E0 : Int) (h : clearE l rs x = (r, E0)) (w : World) (hl : Bars w v l) (hr : Runs w u rs) :
    Calls Tryz.prog 9 #[v, u, .int .i64 x] w (Ret w (.tuple #[.int .i64 r, .int .i64 E0])) := by
  have HC := Lib.hid (fun w hl hr => cuts_c l rs v u x w hl hr)
  have HL := Lib.hid hl
  have HR := Lib.hid hr
  have hlen := cutsE_len l rs x
  have hsm := fun c hc => (cutsE_small (l := l) (rs := rs) (x := x) c hc).1
  unfold clearE at h
  generalize (cutsE l rs x).1 = L at *
  generalize (cutsE l rs x).2 = E at *
  clear hl hr
  by_cases he : E = 0
  · rw [if_pos he] at h
    subst he
    by_cases hn : L.length < 2
    · rw [if_pos hn] at h
      cases h
      have d2 : decide ((L.length : Int) < 2) = true := by simp; omega
      clear hsm
      go_enter Tryz.func9, Tryz.ntmps9
      go_wp2_with fail
      go_at_call 33; refine (HC.out _ (HL.out.below (by (repeat (first | exact grow_refl _ | refine grow_ext _ ?_ | refine grow_alloc _ ?_ | refine grow_drew ?_)))) (HR.out.below (by (repeat (first | exact grow_refl _ | refine grow_ext _ ?_ | refine grow_alloc _ ?_ | refine grow_drew ?_))))).mono ?_; rintro e w' ⟨v8, rfl, hown, x1, rfl⟩
      obtain ⟨a, cap, rfl, h2, h3, -⟩ := own_shape hown
      clear hown
      go_wp2
      go_ret2
      exact Ret.of (by (repeat (first | exact grow_refl _ | refine grow_ext _ ?_ | refine grow_alloc _ ?_ | refine grow_drew ?_)))
    · rw [if_neg hn] at h
      obtain ⟨hr, rfl⟩ : clearI L = r ∧ 0 = E0 := by simpa using h
      have HRR := Lib.hid hr
      have hsmall := Lib.hid hsm
      have hb0 := gapK_bound hsm (i := 0) (k := 1) (by omega) (by omega)
      have hgb := Lib.hid (fun i k hi hk => gapK_bound hsm (i := i) (k := k) hi hk)
      have hlen2 : 2 ≤ L.length := by omega
      have d2 : decide ((L.length : Int) < 2) = false := by simp; omega
      clear h hr hsm hn
      go_enter Tryz.func9, Tryz.ntmps9
      go_wp2_with fail
      go_at_call 33; refine (HC.out _ (HL.out.below (by (repeat (first | exact grow_refl _ | refine grow_ext _ ?_ | refine grow_alloc _ ?_ | refine grow_drew ?_)))) (HR.out.below (by (repeat (first | exact grow_refl _ | refine grow_ext _ ?_ | refine grow_alloc _ ?_ | refine grow_drew ?_))))).mono ?_; rintro e w' ⟨v8, rfl, hown, x1, rfl⟩
      obtain ⟨a, cap, rfl, h2, h3, h4⟩ := Cts.of_own hown
      have H4 := Lib.hid h4
      clear h4 hown
      obtain ⟨b0, off, rfl, hct⟩ := H4.out 0 (by omega)
      obtain ⟨b0', off', e', hct1⟩ := H4.out 1 (by omega)
      cases e'
      obtain ⟨p0, p1, p2, p3, p4, p5, p6, p7⟩ := hct
      obtain ⟨q0, q1, q2, q3, q4, q5, q6, q7⟩ := hct1
      have HG0 := Lib.hid (fun w => gap_c L[0].box L[1].box (hsmall.out _ (List.getElem_mem (by omega))) (hsmall.out _ (List.getElem_mem (by omega))) w)
      rw [show gapB L[0].box L[1].box = gapK L 0 1 by unfold gapK; rw [getD_lt (by omega), getD_lt (by omega)]] at HG0
      generalize L[0] = c0 at *
      generalize L[1] = c1 at *
      have l0 : (0 : Int) < (L.length : Int) := by omega
      have l1 : (1 : Int) < (L.length : Int) := by omega
      have HCI := Lib.hid (show clearI L = clrTo L L.length (gapK L 0 1) from rfl)
      obtain ⟨G0, hG0⟩ : ∃ G, gapK L 0 1 = G := ⟨_, rfl⟩
      rw [hG0] at HG0 hb0 HCI
      clear hG0
      simp only [Nat.zero_mul, Nat.one_mul, Nat.add_zero] at p0 p1 p2 p3 p4 p5 q0 q1 q2 q3 q4 q5
      go_wp2_with fail
      refine wp_region_grows (by kernel_rfl) (by kernel_rfl) ?_
      repeat (go_big_quiet_step ((go_at_call 34; exact Calls.quiet_ext (HG0.out _))))
      refine wpQuiet_nil ?_; rintro _ ⟨xq, rfl⟩
      clear p0 p1 p2 p3 p4 p5 p6 p7 q0 q1 q2 q3 q4 q5 q6 q7
      go_wp2_with fail
      go_loopw [10, 39] (fun b i wr => ∃ n : Nat, n ≤ L.length ∧ i = .int .i64 n ∧ b = .int .i64 (clrTo L n G0) ∧ ∃ z, wr = ext (ext w x1) z) (fun _ i _ => L.length - (intOf i).toNat)
      case atStart => exact ⟨0, by omega, rfl, rfl, _, rfl⟩
      case round =>
        obtain ⟨n, hn, rfl, rfl, z, rfl⟩ := hrel
        by_cases hlt : n < L.length
        · have i1 : (0 : Int) ≤ (n : Int) := by omega
          have i2 : (n : Int) < (L.length : Int) := by omega
          have HCS := Lib.hid (clrTo_succ L n G0)
          obtain ⟨B, hB⟩ : ∃ B, clrTo L n G0 = B := ⟨_, rfl⟩
          rw [hB] at HCS ⊢
          clear hB
          go_wp2_with fail
          go_loopw [10, 43] (fun b i wr => ∃ k : Nat, k ≤ n ∧ i = .int .i64 k ∧ b = .int .i64 (clrIn L n k B) ∧ ∃ z, wr = ext (ext w x1) z) (fun _ i _ => n - (intOf i).toNat)
          case atStart => exact ⟨0, by omega, rfl, rfl, _, rfl⟩
          case round =>
            obtain ⟨k, hk, rfl, rfl, z, rfl⟩ := hrel
            by_cases hlt2 : k < n
            · have i3 : (0 : Int) ≤ (k : Int) := by omega
              have i4 : (k : Int) < (n : Int) := by omega
              have i5 : (k : Int) < (L.length : Int) := by omega
              have hkL : k < L.length := by omega
              have HIS := Lib.hid (clrIn_succ L n k B)
              obtain ⟨b1, o1, e1, hp⟩ := H4.out n hlt
              cases e1
              obtain ⟨b2, o2, e2, hq⟩ := H4.out k hkL
              cases e2
              obtain ⟨p0, p1, p2, p3, p4, p5, -, -⟩ := hp.ext z
              obtain ⟨q0, q1, q2, q3, q4, q5, -, -⟩ := hq.ext z
              have HGN := Lib.hid (fun w => gap_c L[n].box L[k].box (hsmall.out _ (List.getElem_mem hlt)) (hsmall.out _ (List.getElem_mem hkL)) w)
              rw [show gapB L[n].box L[k].box = gapK L n k by unfold gapK; rw [getD_lt hlt, getD_lt hkL]] at HGN
              generalize L[n] = cn at *
              generalize L[k] = ck at *
              generalize gapK L n k = G at *
              generalize clrIn L n k B = C at *
              clear hp hq hkL
              go_wp2_with fail
              refine wp_region_grows (by kernel_rfl) (by kernel_rfl) ?_
              repeat (go_big_quiet_step ((go_at_call 34; exact Calls.quiet_ext (HGN.out _))))
              refine wpQuiet_nil ?_; rintro _ ⟨xq, rfl⟩
              clear p0 p1 p2 p3 p4 p5 q0 q1 q2 q3 q4 q5
              go_wp2
              go_roundw
              case rel => exact ⟨k + 1, by omega, by go_num, by rw [HIS.out], ext_of (by (repeat (first | exact grow_refl _ | refine grow_ext _ ?_ | refine grow_alloc _ ?_ | refine grow_drew ?_)))⟩
              case measure => simp [intOf]; omega
            · obtain rfl : k = n := by omega
              go_wp2
              go_roundw
              case rel => exact ⟨k + 1, by omega, by go_num, by rw [HCS.out], ext_of (by (repeat (first | exact grow_refl _ | refine grow_ext _ ?_ | refine grow_alloc _ ?_ | refine grow_drew ?_)))⟩
              case measure => simp [intOf]; omega
        · obtain rfl : n = L.length := by omega
          have HF := Lib.hid (show clrTo L L.length G0 = r by rw [← HRR.out, HCI.out])
          go_wp2
          go_ret2
          rw [HF.out]
          exact Ret.of (by (repeat (first | exact grow_refl _ | refine grow_ext _ ?_ | refine grow_alloc _ ?_ | refine grow_drew ?_)))
  · rw [if_neg he] at h
    obtain ⟨rfl, rfl⟩ : 0 = r ∧ E = E0 := by simpa using h
    have d1 : (E != 0) = true := by simpa using he
    clear h he hsm
    go_enter Tryz.func9, Tryz.ntmps9
    go_wp2_with fail
    go_at_call 33; refine (HC.out _ (HL.out.below (by (repeat (first | exact grow_refl _ | refine grow_ext _ ?_ | refine grow_alloc _ ?_ | refine grow_drew ?_)))) (HR.out.below (by (repeat (first | exact grow_refl _ | refine grow_ext _ ?_ | refine grow_alloc _ ?_ | refine grow_drew ?_))))).mono ?_; rintro e w' ⟨v8, rfl, hown, x1, rfl⟩
    obtain ⟨a8, c8, rfl, -, -, -⟩ := own_shape hown
    clear hown
    go_wp2
    go_ret2
    exact Ret.of (by (repeat (first | exact grow_refl _ | refine grow_ext _ ?_ | refine grow_alloc _ ?_ | refine grow_drew ?_)))

end Go.Proofs.YtofjopdcbmaijaaGreat

namespace Go.Proofs.YtofjopdcbmaijaaGreat
open Go.RowKit
set_option maxRecDepth 20000

def tooB (L : List Ct) (a : Int) (n k : Nat) : Bool := decide (n ≠ k) && decide (gapK L n k < leastI (max (L.getD n noCt).size (L.getD k noCt).size) a)
def nearTo (L : List Ct) (a : Int) (n k : Nat) : Bool := (List.range k).any (tooB L a n)
theorem nearTo_succ (L : List Ct) (a : Int) (n k : Nat) : nearTo L a n (k + 1) = (nearTo L a n k || tooB L a n k) := by
  unfold nearTo; rw [List.range_succ, List.any_append]; simp
def checkTo (L : List Ct) (a : Int) (n : Nat) : List ByteArray := (List.range n).filterMap fun i => if nearTo L a i L.length = true then some (L.getD i noCt).mark else none
theorem checkTo_succ (L : List Ct) (a : Int) (n : Nat) : checkTo L a (n + 1) = checkTo L a n ++ (if nearTo L a n L.length = true then [(L.getD n noCt).mark] else []) := by
  unfold checkTo; rw [List.range_succ, List.filterMap_append]
  split <;> simp_all
theorem checkTo_len (L : List Ct) (a : Int) (n : Nat) : (checkTo L a n).length ≤ n := by
  unfold checkTo
  have := List.length_filterMap_le (fun i => if nearTo L a i L.length = true then some (L.getD i noCt).mark else none) (List.range n)
  rwa [List.length_range] at this
def checkI (L : List Ct) (a : Int) : List ByteArray := checkTo L a L.length
def checkE (l : List Br) (rs : List Rn) (a x : Int) : List ByteArray × Int := if (cutsE l rs x).2 = 0 then (if inI a 1 100 = true then (checkI (cutsE l rs x).1 a, 0) else ([], 2)) else ([], (cutsE l rs x).2)
def ctArr (c : Ct) : Array Value := #[.int .i64 c.box.lx, .int .i64 c.box.ly, .int .i64 c.box.lz, .int .i64 c.box.hx, .int .i64 c.box.hy, .int .i64 c.box.hz, .int .i64 c.size, .string c.mark]

set_option maxRecDepth 100000 in
set_option maxHeartbeats 8000000 in
theorem gCheck_c (l : List Br) (rs : List Rn) (v u : Value) (a x : Int) (w : World) (hl : Bars w v l) (hr : Runs w u rs) :
    Calls Tryz.prog 15 #[v, u, .int .i64 a, .int .i64 x] w (RetFds w (checkE l rs a x).1 (checkE l rs a x).2) := by
  have HC := Lib.hid (fun w hl hr => cuts_c l rs v u x w hl hr)
  have HL := Lib.hid hl
  have HR := Lib.hid hr
  have hlen := cutsE_len l rs x
  have hsm := fun c hc => cutsE_small (l := l) (rs := rs) (x := x) c hc
  unfold checkE
  generalize (cutsE l rs x).1 = L at *
  generalize (cutsE l rs x).2 = E at *
  clear hl hr
  by_cases he : E = 0
  · rw [if_pos he]
    subst he
    cases ha : inI a 1 100
    · simp only [Bool.false_eq_true, if_false]
      have HA := Lib.hid ha
      clear hsm ha
      go_enter Tryz.func15, Tryz.ntmps15
      go_wp2_with fail
      go_at_call 33; refine (HC.out _ (HL.out.below (by (repeat (first | exact grow_refl _ | refine grow_ext _ ?_ | refine grow_alloc _ ?_ | refine grow_drew ?_)))) (HR.out.below (by (repeat (first | exact grow_refl _ | refine grow_ext _ ?_ | refine grow_alloc _ ?_ | refine grow_drew ?_))))).mono ?_; rintro e w' ⟨v8, rfl, hown, x1, rfl⟩
      obtain ⟨a8, c8, rfl, -, -, -⟩ := own_shape hown
      clear hown
      go_wp2_with fail
      go_at_call 43; refine (gwithin_v _ _ _ _ HA.out _).mono ?_; rintro e w' ⟨rfl, x2, rfl⟩
      go_wp2
      go_ret2
      exact ⟨_, rfl, World.ownsRow_nil _ _ _ _, ext_of (by (repeat (first | exact grow_refl _ | refine grow_ext _ ?_ | refine grow_alloc _ ?_ | refine grow_drew ?_)))⟩
    · simp only [if_true]
      have HA := Lib.hid ha
      have HSM := Lib.hid hsm
      have HLE := Lib.hid (fun d w => gleast_c d a (inI_iff.1 ha) w)
      clear hsm ha
      go_enter Tryz.func15, Tryz.ntmps15
      go_wp2_with fail
      go_at_call 33; refine (HC.out _ (HL.out.below (by (repeat (first | exact grow_refl _ | refine grow_ext _ ?_ | refine grow_alloc _ ?_ | refine grow_drew ?_)))) (HR.out.below (by (repeat (first | exact grow_refl _ | refine grow_ext _ ?_ | refine grow_alloc _ ?_ | refine grow_drew ?_))))).mono ?_; rintro e w' ⟨v8, rfl, hown, x1, rfl⟩
      obtain ⟨a8, cap, rfl, h2, h3, h4⟩ := Cts.of_own hown
      have H4 := Lib.hid h4
      have HOW := Lib.hid hown
      clear h4 hown
      go_wp2_with fail
      go_at_call 43; refine (gwithin_v _ _ _ _ HA.out _).mono ?_; rintro e w' ⟨rfl, x2, rfl⟩
      go_wp2_with fail
      refine world_mask (fun W => (∃ z, W = ext (ext w x1) z)) _ ⟨_, rfl⟩ ?_
      rintro W1 hz1
      obtain ⟨W0, hW0⟩ : ∃ W0, ext w x1 = W0 := ⟨_, rfl⟩
      rw [hW0] at hz1 H4
      have HW0 := Lib.hid (show Below w.heap.size w W0 by rw [← hW0]; exact below_ext _ _)
      clear hW0 HOW
      go_loopw [12, 35] (fun v i wr => ∃ n : Nat, n ≤ L.length ∧ i = .int .i64 n ∧ (∃ z, wr = ext W0 z) ∧ wr.ownsRow W0.heap.size 57 2 v (checkTo L a n).length (fdCells (checkTo L a n))) (fun _ i _ => L.length - (intOf i).toNat)
      case atStart => exact ⟨0, by omega, rfl, hz1, World.ownsRow_nil _ _ _ _⟩
      case round =>
        clear hz1
        obtain ⟨n, hn, rfl, ⟨z, rfl⟩, hown⟩ := hrel
        have HO := Lib.hid hown
        obtain ⟨av, cv, rfl, hv1, hv2, -⟩ := own_shape hown
        have hv3 : cv ≤ 9223372036854775807 := hv2
        have HCL := Lib.hid (checkTo_len L a n)
        clear hown
        by_cases hlt : n < L.length
        · have i1 : (0 : Int) ≤ (n : Int) := by omega
          have i2 : (n : Int) < (L.length : Int) := by omega
          have HCS := Lib.hid (checkTo_succ L a n)
          obtain ⟨b0, o0, rfl, hp⟩ := H4.out n hlt
          have hgd : L.getD n noCt = L[n] := getD_lt hlt
          have hcsm := HSM.out _ (List.getElem_mem hlt)
          obtain ⟨cn, hcn⟩ : ∃ c, L[n] = c := ⟨_, rfl⟩
          rw [hcn] at hp hgd hcsm
          obtain ⟨p0, p1, p2, p3, p4, p5, p6, p7⟩ := hp.ext z
          have HCN := Lib.hid hgd
          have HCSM := Lib.hid hcsm
          have hcl := HCL.out
          generalize checkTo L a n = CT at *
          clear hcn hp hgd hcsm
          go_wp2_with fail
          clear p0 p1 p2 p3 p4 p5 p6 p7
          obtain ⟨g14, hg14⟩ : ∃ g, g = W0.heap.size + z.heap.size := ⟨_, rfl⟩
          rw [← hg14]
          refine world_mask (fun W => (∃ z, W = ext W0 z) ∧ Blk W g14 (ctArr cn) 82 ∧ W.ownsRow W0.heap.size 57 2 (.slice av CT.length cv) CT.length (fdCells CT)) _ ⟨ext_of (grow_alloc _ (below_ext _ _)), Blk.new' (by rw [hg14, size_ext]) _ _, HO.out.alloc _⟩ ?_
          clear hg14 HO
          rintro W2 ⟨hz2, hb2, ho2⟩
          have HZ2 := Lib.hid hz2
          have HB2 := Lib.hid hb2
          have HO := Lib.hid ho2
          have H42 := Lib.hid (show ∀ i (h : i < L.length), ∃ b off, some (⟨b0, o0, none⟩ : Addr) = some ⟨b, off, none⟩ ∧ CtAt W2 b (off + i * 8) L[i] from by
            obtain ⟨z, rfl⟩ := hz2
            exact fun i h => let ⟨b, off, e, hc⟩ := H4.out i h; ⟨b, off, e, hc.ext z⟩)
          clear hz2 hb2 ho2
          go_loopw [15, 42] (fun nr i wr => ∃ k : Nat, k ≤ L.length ∧ i = .int .i64 k ∧ nr = .bool (nearTo L a n k) ∧ ∃ z, wr = ext W2 z) (fun _ i _ => L.length - (intOf i).toNat)
          case atStart => exact ⟨0, by omega, rfl, rfl, ext_of (Below.refl _ _)⟩
          case round =>
            obtain ⟨k, hk, rfl, rfl, y, rfl⟩ := hrel
            by_cases hltk : k < L.length
            · have i3 : (0 : Int) ≤ (k : Int) := by omega
              have i4 : (k : Int) < (L.length : Int) := by omega
              have HNX := Lib.hid (nearTo_succ L a n k)
              obtain ⟨b1, o1, e1, hq⟩ := H42.out k hltk
              cases e1
              have hgdk : L.getD k noCt = L[k] := getD_lt hltk
              have hksm := HSM.out _ (List.getElem_mem hltk)
              have HTB := Lib.hid (show tooB L a n k = (decide (n ≠ k) && decide (gapB cn.box L[k].box < leastI (max cn.size L[k].size) a)) by unfold tooB gapK; rw [HCN.out, hgdk])
              obtain ⟨ck, hck⟩ : ∃ c, L[k] = c := ⟨_, rfl⟩
              rw [hck] at hq hksm HTB
              have bn := HB2.out.ext y
              have p0 : (ext W2 y).cell? ⟨g14, 0, none⟩ = some (.int .i64 cn.box.lx) := bn.cell 0
              have p1 : (ext W2 y).cell? ⟨g14, 1, none⟩ = some (.int .i64 cn.box.ly) := bn.cell 1
              have p2 : (ext W2 y).cell? ⟨g14, 2, none⟩ = some (.int .i64 cn.box.lz) := bn.cell 2
              have p3 : (ext W2 y).cell? ⟨g14, 3, none⟩ = some (.int .i64 cn.box.hx) := bn.cell 3
              have p4 : (ext W2 y).cell? ⟨g14, 4, none⟩ = some (.int .i64 cn.box.hy) := bn.cell 4
              have p5 : (ext W2 y).cell? ⟨g14, 5, none⟩ = some (.int .i64 cn.box.hz) := bn.cell 5
              have p6 : (ext W2 y).cell? ⟨g14, 6, none⟩ = some (.int .i64 cn.size) := bn.cell 6
              obtain ⟨q0, q1, q2, q3, q4, q5, q6, q7⟩ := hq.ext y
              have HG := Lib.hid (fun w => gap_c cn.box ck.box HCSM.out.1 hksm.1 w)
              have HLS := Lib.hid (fun w => HLE.out (max cn.size ck.size) w)
              generalize gapB cn.box ck.box = G at *
              generalize leastI (max cn.size ck.size) a = LS at *
              generalize nearTo L a n k = NK at *
              clear hq hck hgdk hksm bn
              cases NK
              · by_cases hnk : n = k
                · have e1 : ((n : Int) != (k : Int)) = false := by simp [hnk]
                  have HNX := Lib.hid (show nearTo L a n (k + 1) = false by rw [HNX.out, HTB.out, decide_eq_false (fun h => h hnk)]; rfl)
                  clear hnk
                  go_wp2_with fail
                  refine wp_region_grows (by kernel_rfl) (by kernel_rfl) ?_
                  repeat (go_big_quiet_step (fail))
                  refine wpQuiet_nil ?_; rintro _ ⟨xq, rfl⟩
                  go_wp2
                  go_roundw
                  case rel => exact ⟨k + 1, by omega, by go_num, by rw [HNX.out]; try rw [decide_eq_false (by omega)], ext_of (by (repeat (first | exact grow_refl _ | refine grow_ext _ ?_ | refine grow_alloc _ ?_ | refine grow_drew ?_)))⟩
                  case measure => simp [intOf]; omega
                · have e1 : ((n : Int) != (k : Int)) = true := by simp; omega
                  by_cases hgl : G < LS
                  · have HNX := Lib.hid (show nearTo L a n (k + 1) = true by rw [HNX.out, HTB.out, decide_eq_true hnk, decide_eq_true hgl]; rfl)
                    clear hnk
                    go_wp2_with fail
                    refine wp_region_grows (by kernel_rfl) (by kernel_rfl) ?_
                    repeat (go_big_quiet_step ((first | (go_at_call 34; exact Calls.quiet_ext (HG.out _)) | (go_at_call 44; exact Calls.quiet_ext (HLS.out _)))))
                    refine wpQuiet_nil ?_; rintro _ ⟨xq, rfl⟩
                    go_wp2
                    go_roundw
                    case rel => exact ⟨k + 1, by omega, by go_num, by rw [HNX.out]; try rw [decide_eq_false (by omega)], ext_of (by (repeat (first | exact grow_refl _ | refine grow_ext _ ?_ | refine grow_alloc _ ?_ | refine grow_drew ?_)))⟩
                    case measure => simp [intOf]; omega
                  · have HNX := Lib.hid (show nearTo L a n (k + 1) = false by rw [HNX.out, HTB.out, decide_eq_false hgl, Bool.and_false]; rfl)
                    clear hnk
                    go_wp2_with fail
                    refine wp_region_grows (by kernel_rfl) (by kernel_rfl) ?_
                    repeat (go_big_quiet_step ((first | (go_at_call 34; exact Calls.quiet_ext (HG.out _)) | (go_at_call 44; exact Calls.quiet_ext (HLS.out _)))))
                    refine wpQuiet_nil ?_; rintro _ ⟨xq, rfl⟩
                    go_wp2
                    go_roundw
                    case rel => exact ⟨k + 1, by omega, by go_num, by rw [HNX.out]; try rw [decide_eq_false (by omega)], ext_of (by (repeat (first | exact grow_refl _ | refine grow_ext _ ?_ | refine grow_alloc _ ?_ | refine grow_drew ?_)))⟩
                    case measure => simp [intOf]; omega
              · have HNX := Lib.hid (show nearTo L a n (k + 1) = true by rw [HNX.out]; rfl)
                go_wp2_with fail
                refine wp_region_grows (by kernel_rfl) (by kernel_rfl) ?_
                repeat (go_big_quiet_step (fail))
                refine wpQuiet_nil ?_; rintro _ ⟨xq, rfl⟩
                go_wp2
                go_roundw
                case rel => exact ⟨k + 1, by omega, by go_num, by rw [HNX.out]; try rw [decide_eq_false (by omega)], ext_of (by (repeat (first | exact grow_refl _ | refine grow_ext _ ?_ | refine grow_alloc _ ?_ | refine grow_drew ?_)))⟩
                case measure => simp [intOf]; omega
            · obtain rfl : k = L.length := by omega
              have bn := HB2.out.ext y
              have p7 : (ext W2 y).cell? ⟨g14, 7, none⟩ = some (.string cn.mark) := bn.cell 7
              have HOY := Lib.hid (own_ext HO.out y)
              have HZY := Lib.hid (show ∃ z, ext W2 y = ext W0 z by obtain ⟨z2, e⟩ := HZ2.out; rw [e, ext_ext]; exact ⟨_, rfl⟩)
              rw [HCN.out] at HCS
              generalize nearTo L a n L.length = NK at *
              clear bn
              cases NK
              · have HCS := Lib.hid (show checkTo L a (n + 1) = CT by rw [HCS.out]; simp)
                go_wp2
                go_roundw
                case rel => exact ⟨n + 1, by omega, by go_num, HZY.out, by rw [HCS.out]; exact HOY.out⟩
                case measure => simp [intOf]; omega
              · have HCS := Lib.hid (show checkTo L a (n + 1) = CT ++ [cn.mark] by rw [HCS.out]; simp)
                have hsz : W0.heap.size ≤ W2.heap.size := by obtain ⟨z2, e⟩ := HZ2.out; rw [e, size_ext]; omega
                go_wp2_with (at_builtin; refine app_own_b rfl _ _ 48 rfl 57 (.agg #[.int .i64 0, .string ⟨#[]⟩]) 2 24 Tryz.underlying48 info_fd rfl (by decide) (W0.heap.size) (.slice av CT.length cv) (CT.length) (fdCells CT) _ rfl (HOY.out.alloc _) _ 1 1 (fdCells [cn.mark]) rfl rfl (cells_new ?_ _ _ _ rfl) (fdCells_one _) (by omega) (by decide) ?_ ?_; (first | rfl | simp [size_ext]); (simp only [World.size_alloc, size_ext]; omega); intro v' w1 hown' hgrow; have HO2 := Lib.hid hown'; obtain ⟨a', c', rfl, _, hc2, -⟩ := own_shape hown'; have hc3 : c' ≤ 9223372036854775807 := hc2; have HGR := Lib.hid hgrow; clear hown' hgrow hc2)
                go_roundw
                case rel =>
                  refine ⟨n + 1, by omega, by go_num, ?_, ?_⟩
                  · obtain ⟨zz, ez⟩ := HZY.out
                    have hg := HGR.out
                    rw [ez] at hg
                    exact ext_grown2 (grow_alloc _ (below_ext _ _)) hg (fun j e => (HOY.out.lt j e).1)
                  · rw [HCS.out]
                    exact own_fds HO2.out rfl
                case measure => simp [intOf]; omega
        · obtain rfl : n = L.length := by omega
          go_wp2
          go_ret2
          exact ⟨_, rfl, own_mono HO.out HW0.out.size, ext_of (HW0.out.trans ((below_ext W0 z).mono HW0.out.size))⟩
  · rw [if_neg he]
    have d1 : (E != 0) = true := by simpa using he
    clear he hsm
    go_enter Tryz.func15, Tryz.ntmps15
    go_wp2_with fail
    go_at_call 33; refine (HC.out _ (HL.out.below (by (repeat (first | exact grow_refl _ | refine grow_ext _ ?_ | refine grow_alloc _ ?_ | refine grow_drew ?_)))) (HR.out.below (by (repeat (first | exact grow_refl _ | refine grow_ext _ ?_ | refine grow_alloc _ ?_ | refine grow_drew ?_))))).mono ?_; rintro e w' ⟨v8, rfl, hown, x1, rfl⟩
    obtain ⟨a8, c8, rfl, -, -, -⟩ := own_shape hown
    clear hown
    go_wp2
    go_ret2
    exact ⟨_, rfl, World.ownsRow_nil _ _ _ _, ext_of (by (repeat (first | exact grow_refl _ | refine grow_ext _ ?_ | refine grow_alloc _ ?_ | refine grow_drew ?_)))⟩

end Go.Proofs.YtofjopdcbmaijaaGreat

