/- The clear gap of cuts: gaps.Clear. -/
import Derived.Test.YtofjopdcbmaijaaGapD
import Derived.Test.YtofjopdcbmaijaaTail
namespace Go.Proofs.Ytofjopdcbmaijaa
open Go.RowKit
set_option maxRecDepth 20000

def noCt : Ct := ⟨⟨0, 0, 0, 0, 0, 0⟩, 0, ⟨#[]⟩⟩
def gapK (L : List Ct) (i k : Nat) : Int := gapB (L.getD i noCt).box (L.getD k noCt).box
def clrIn (L : List Ct) (i k : Nat) (b : Int) : Int := (List.range k).foldl (fun b k => min b (gapK L i k)) b
def clrTo (L : List Ct) (n : Nat) (b : Int) : Int := (List.range n).foldl (fun b i => clrIn L i i b) b
def clearI (L : List Ct) : Int := clrTo L L.length (gapK L 0 1)
theorem clrIn_succ (L : List Ct) (i k : Nat) (b : Int) : clrIn L i (k + 1) b = min (clrIn L i k b) (gapK L i k) := by
  unfold clrIn; rw [List.range_succ, List.foldl_append]; rfl
theorem clrTo_succ (L : List Ct) (n : Nat) (b : Int) : clrTo L (n + 1) b = clrIn L n n (clrTo L n b) := by
  unfold clrTo; rw [List.range_succ, List.foldl_append]; rfl
theorem cutsE_small {l : List Br} {rs : List Rn} {x : Int} : ∀ c ∈ (cutsE l rs x).1, SmallB c.box ∧ sizeB c.size = true := by
  unfold cutsE
  by_cases hv : laidB l rs = true
  · rw [if_pos hv]
    by_cases hx : inI x (-1048576) 1048576 = true
    · rw [if_pos hx]
      intro c hc
      have hc' : c ∈ cutsTo l rs x (countS rs).toNat := hc
      unfold cutsTo at hc'
      obtain ⟨i, hi, hci⟩ := List.mem_flatMap.1 hc'
      have hi := List.mem_range.1 hi
      have h0 := (count_le hv rs.length).1
      rw [List.take_length] at h0
      have h1 : (0 : Int) ≤ (i : Int) := by omega
      have h2 : (i : Int) < countS rs := by omega
      unfold cutsAt at hci
      obtain ⟨b, hb, hcb⟩ := List.mem_filterMap.1 hci
      have hbv := valid_iff.1 (legsI_valid hv h1 h2 b hb)
      have hsz := size_of hv h1 h2
      unfold cutOf at hcb
      split at hcb
      · cases hcb
        refine ⟨?_, hsz⟩
        have hd := size_iff.1 hsz
        have hh : 0 ≤ halfI (sizeI l rs i) ∧ halfI (sizeI l rs i) ≤ 20 := by unfold halfI; omega
        unfold SmallB cutBox; simp only; omega
      · cases hcb
    · rw [if_neg hx]; intro c hc; cases hc
  · rw [if_neg hv]; intro c hc; cases hc
theorem getD_lt {α : Type} {L : List α} {i : Nat} {z : α} (h : i < L.length) : L.getD i z = L[i] := by simp [List.getD, h]
theorem gapK_bound {L : List Ct} (h : ∀ c ∈ L, SmallB c.box) {i k : Nat} (hi : i < L.length) (hk : k < L.length) : -8000000 ≤ gapK L i k ∧ gapK L i k ≤ 8000000 := by
  unfold gapK
  rw [getD_lt hi, getD_lt hk]
  have h1 := h _ (List.getElem_mem hi)
  have h2 := h _ (List.getElem_mem hk)
  unfold SmallB at h1 h2
  unfold gapB; omega

def clearE (l : List Br) (rs : List Rn) (x : Int) : Int × Int := if (cutsE l rs x).2 = 0 then (if (cutsE l rs x).1.length < 2 then (0, 12) else (clearI (cutsE l rs x).1, 0)) else (0, (cutsE l rs x).2)

set_option maxRecDepth 100000 in
set_option maxHeartbeats 4000000 in
theorem gClear_v (l : List Br) (rs : List Rn) (v u : Value) (x r E0 : Int) (h : clearE l rs x = (r, E0)) (w : World) (hl : Bars w v l) (hr : Runs w u rs) :
    Calls Try.prog 16 #[v, u, .int .i64 x] w (Ret w (.tuple #[.int .i64 r, .int .i64 E0])) := by
  have HC := Lib.hid (fun w hl hr => cuts_c l rs v u x w hl hr)
  have HL := Lib.hid hl
  have HR := Lib.hid hr
  have hlen := cutsE_len l rs x
  have hsm := fun c hc => (cutsE_small (l := l) (rs := rs) (x := x) c hc).1
  unfold clearE at h
  generalize (cutsE l rs x).1 = L at *
  generalize (cutsE l rs x).2 = E at *
  clear hl hr
  by_cases he : E = 0
  · rw [if_pos he] at h
    subst he
    by_cases hn : L.length < 2
    · rw [if_pos hn] at h
      cases h
      have d2 : decide ((L.length : Int) < 2) = true := by simp; omega
      clear hsm
      go_enter Try.func16, Try.ntmps16
      go_wp2_with fail
      go_at_call 28; refine (HC.out _ (HL.out.below (by (repeat (first | exact grow_refl _ | refine grow_ext _ ?_ | refine grow_alloc _ ?_ | refine grow_drew ?_)))) (HR.out.below (by (repeat (first | exact grow_refl _ | refine grow_ext _ ?_ | refine grow_alloc _ ?_ | refine grow_drew ?_))))).mono ?_; rintro e w' ⟨v8, rfl, hown, x1, rfl⟩
      obtain ⟨a, cap, rfl, h2, h3, -⟩ := own_shape hown
      clear hown
      go_wp2
      go_ret2
      exact Ret.of (by (repeat (first | exact grow_refl _ | refine grow_ext _ ?_ | refine grow_alloc _ ?_ | refine grow_drew ?_)))
    · rw [if_neg hn] at h
      obtain ⟨hr, rfl⟩ : clearI L = r ∧ 0 = E0 := by simpa using h
      have HRR := Lib.hid hr
      have hsmall := Lib.hid hsm
      have hb0 := gapK_bound hsm (i := 0) (k := 1) (by omega) (by omega)
      have hgb := Lib.hid (fun i k hi hk => gapK_bound hsm (i := i) (k := k) hi hk)
      have hlen2 : 2 ≤ L.length := by omega
      have d2 : decide ((L.length : Int) < 2) = false := by simp; omega
      clear h hr hsm hn
      go_enter Try.func16, Try.ntmps16
      go_wp2_with fail
      go_at_call 28; refine (HC.out _ (HL.out.below (by (repeat (first | exact grow_refl _ | refine grow_ext _ ?_ | refine grow_alloc _ ?_ | refine grow_drew ?_)))) (HR.out.below (by (repeat (first | exact grow_refl _ | refine grow_ext _ ?_ | refine grow_alloc _ ?_ | refine grow_drew ?_))))).mono ?_; rintro e w' ⟨v8, rfl, hown, x1, rfl⟩
      obtain ⟨a, cap, rfl, h2, h3, h4⟩ := Cts.of_own hown
      have H4 := Lib.hid h4
      clear h4 hown
      obtain ⟨b0, off, rfl, hct⟩ := H4.out 0 (by omega)
      obtain ⟨b0', off', e', hct1⟩ := H4.out 1 (by omega)
      cases e'
      obtain ⟨p0, p1, p2, p3, p4, p5, p6, p7⟩ := hct
      obtain ⟨q0, q1, q2, q3, q4, q5, q6, q7⟩ := hct1
      have HG0 := Lib.hid (fun w => gap_c L[0].box L[1].box (hsmall.out _ (List.getElem_mem (by omega))) (hsmall.out _ (List.getElem_mem (by omega))) w)
      rw [show gapB L[0].box L[1].box = gapK L 0 1 by unfold gapK; rw [getD_lt (by omega), getD_lt (by omega)]] at HG0
      generalize L[0] = c0 at *
      generalize L[1] = c1 at *
      have l0 : (0 : Int) < (L.length : Int) := by omega
      have l1 : (1 : Int) < (L.length : Int) := by omega
      have HCI := Lib.hid (show clearI L = clrTo L L.length (gapK L 0 1) from rfl)
      obtain ⟨G0, hG0⟩ : ∃ G, gapK L 0 1 = G := ⟨_, rfl⟩
      rw [hG0] at HG0 hb0 HCI
      clear hG0
      simp only [Nat.zero_mul, Nat.one_mul, Nat.add_zero] at p0 p1 p2 p3 p4 p5 q0 q1 q2 q3 q4 q5
      go_wp2_with fail
      refine wp_region_grows (by kernel_rfl) (by kernel_rfl) ?_
      repeat (go_big_quiet_step ((go_at_call 29; exact Calls.quiet_ext (HG0.out _))))
      refine wpQuiet_nil ?_; rintro _ ⟨xq, rfl⟩
      clear p0 p1 p2 p3 p4 p5 p6 p7 q0 q1 q2 q3 q4 q5 q6 q7
      go_wp2_with fail
      go_loopw [10, 39] (fun b i wr => ∃ n : Nat, n ≤ L.length ∧ i = .int .i64 n ∧ b = .int .i64 (clrTo L n G0) ∧ ∃ z, wr = ext (ext w x1) z) (fun _ i _ => L.length - (intOf i).toNat)
      case atStart => exact ⟨0, by omega, rfl, rfl, _, rfl⟩
      case round =>
        obtain ⟨n, hn, rfl, rfl, z, rfl⟩ := hrel
        by_cases hlt : n < L.length
        · have i1 : (0 : Int) ≤ (n : Int) := by omega
          have i2 : (n : Int) < (L.length : Int) := by omega
          have HCS := Lib.hid (clrTo_succ L n G0)
          obtain ⟨B, hB⟩ : ∃ B, clrTo L n G0 = B := ⟨_, rfl⟩
          rw [hB] at HCS ⊢
          clear hB
          go_wp2_with fail
          go_loopw [10, 43] (fun b i wr => ∃ k : Nat, k ≤ n ∧ i = .int .i64 k ∧ b = .int .i64 (clrIn L n k B) ∧ ∃ z, wr = ext (ext w x1) z) (fun _ i _ => n - (intOf i).toNat)
          case atStart => exact ⟨0, by omega, rfl, rfl, _, rfl⟩
          case round =>
            obtain ⟨k, hk, rfl, rfl, z, rfl⟩ := hrel
            by_cases hlt2 : k < n
            · have i3 : (0 : Int) ≤ (k : Int) := by omega
              have i4 : (k : Int) < (n : Int) := by omega
              have i5 : (k : Int) < (L.length : Int) := by omega
              have hkL : k < L.length := by omega
              have HIS := Lib.hid (clrIn_succ L n k B)
              obtain ⟨b1, o1, e1, hp⟩ := H4.out n hlt
              cases e1
              obtain ⟨b2, o2, e2, hq⟩ := H4.out k hkL
              cases e2
              obtain ⟨p0, p1, p2, p3, p4, p5, -, -⟩ := hp.ext z
              obtain ⟨q0, q1, q2, q3, q4, q5, -, -⟩ := hq.ext z
              have HGN := Lib.hid (fun w => gap_c L[n].box L[k].box (hsmall.out _ (List.getElem_mem hlt)) (hsmall.out _ (List.getElem_mem hkL)) w)
              rw [show gapB L[n].box L[k].box = gapK L n k by unfold gapK; rw [getD_lt hlt, getD_lt hkL]] at HGN
              generalize L[n] = cn at *
              generalize L[k] = ck at *
              generalize gapK L n k = G at *
              generalize clrIn L n k B = C at *
              clear hp hq hkL
              go_wp2_with fail
              refine wp_region_grows (by kernel_rfl) (by kernel_rfl) ?_
              repeat (go_big_quiet_step ((go_at_call 29; exact Calls.quiet_ext (HGN.out _))))
              refine wpQuiet_nil ?_; rintro _ ⟨xq, rfl⟩
              clear p0 p1 p2 p3 p4 p5 q0 q1 q2 q3 q4 q5
              go_wp2
              go_roundw
              case rel => exact ⟨k + 1, by omega, by go_num, by rw [HIS.out], ext_of (by (repeat (first | exact grow_refl _ | refine grow_ext _ ?_ | refine grow_alloc _ ?_ | refine grow_drew ?_)))⟩
              case measure => simp [intOf]; omega
            · obtain rfl : k = n := by omega
              go_wp2
              go_roundw
              case rel => exact ⟨k + 1, by omega, by go_num, by rw [HCS.out], ext_of (by (repeat (first | exact grow_refl _ | refine grow_ext _ ?_ | refine grow_alloc _ ?_ | refine grow_drew ?_)))⟩
              case measure => simp [intOf]; omega
        · obtain rfl : n = L.length := by omega
          have HF := Lib.hid (show clrTo L L.length G0 = r by rw [← HRR.out, HCI.out])
          go_wp2
          go_ret2
          rw [HF.out]
          exact Ret.of (by (repeat (first | exact grow_refl _ | refine grow_ext _ ?_ | refine grow_alloc _ ?_ | refine grow_drew ?_)))
  · rw [if_neg he] at h
    obtain ⟨rfl, rfl⟩ : 0 = r ∧ E = E0 := by simpa using h
    have d1 : (E != 0) = true := by simpa using he
    clear h he hsm
    go_enter Try.func16, Try.ntmps16
    go_wp2_with fail
    go_at_call 28; refine (HC.out _ (HL.out.below (by (repeat (first | exact grow_refl _ | refine grow_ext _ ?_ | refine grow_alloc _ ?_ | refine grow_drew ?_)))) (HR.out.below (by (repeat (first | exact grow_refl _ | refine grow_ext _ ?_ | refine grow_alloc _ ?_ | refine grow_drew ?_))))).mono ?_; rintro e w' ⟨v8, rfl, hown, x1, rfl⟩
    obtain ⟨a8, c8, rfl, -, -, -⟩ := own_shape hown
    clear hown
    go_wp2
    go_ret2
    exact Ret.of (by (repeat (first | exact grow_refl _ | refine grow_ext _ ?_ | refine grow_alloc _ ?_ | refine grow_drew ?_)))

end Go.Proofs.Ytofjopdcbmaijaa
