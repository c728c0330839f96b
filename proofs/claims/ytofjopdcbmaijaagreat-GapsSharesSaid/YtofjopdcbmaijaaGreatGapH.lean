/- The share of steel: gaps.Share. -/
import Derived.Test.YtofjopdcbmaijaaGreatGapK2
import Derived.Test.YtofjopdcbmaijaaGreatStI
import Derived.Test.YtofjopdcbmaijaaGreatGapK4
import Derived.Test.YtofjopdcbmaijaaGreatSolK3
namespace Go.Proofs.YtofjopdcbmaijaaGreat
open Go.RowKit
set_option maxRecDepth 20000

def memB (q : Mb) : Bool := memberB q.name q.l q.m q.cover q.agg q.poker
def zeroF : Value := .agg #[.int .i64 0, .int .i64 0]
def shareE (q : Mb) (l : List Br) (rs : List Rn) (x : Int) : Value × Int :=
  if memB q = true then (if (cutsE l rs x).2 = 0 then (if sectI q.l q.m x = 0 then (zeroF, 16) else (fracV (steelI (cutsE l rs x).1).toNat (100 * sectI q.l q.m x).toNat, 0)) else (zeroF, (cutsE l rs x).2)) else (zeroF, 1)

set_option maxRecDepth 100000 in
set_option maxHeartbeats 4000000 in
theorem share_v (q : Mb) (l : List Br) (rs : List Rn) (v u : Value) (x : Int) (F : Value) (E0 : Int) (h : shareE q l rs x = (F, E0)) (w : World) (hq : MbAt w q) (hl : Bars w v l) (hr : Runs w u rs) :
    Calls Tryz.prog 16 #[(.agg #[.string q.name, q.u, q.t, .int .i64 q.cover, .int .i64 q.agg, .int .i64 q.poker]), v, u, .int .i64 x] w (Ret w (.tuple #[F, .int .i64 E0])) := by
  have HC := Lib.hid (fun w hl hr => cuts_c l rs v u x w hl hr)
  have HL := Lib.hid hl
  have HR := Lib.hid hr
  have HQ := Lib.hid hq
  obtain ⟨ua, uc, eu, -, -, -⟩ := hq.boxes.shape
  obtain ⟨ta, tc, et, -, -, -⟩ := hq.holes.shape
  unfold shareE at h
  cases hb : memB q
  · rw [hb] at h
    simp only [Bool.false_eq_true, if_false] at h
    cases h
    have HM := Lib.hid (fun w hl hm => solidMember_v q.name q.l q.m q.u q.t q.cover q.agg q.poker false hb hq.name w hl hm)
    obtain ⟨name, bl, ml, bu, bt, cover, agg, poker⟩ := q
    simp only at eu et HM
    subst eu et
    clear hq hl hr hb
    go_enter Tryz.func16, Tryz.ntmps16
    go_wp2_with fail
    go_at_call 45; refine (HM.out _ (HQ.out.boxes.below (by (repeat (first | exact grow_refl _ | refine grow_ext _ ?_ | refine grow_alloc _ ?_ | refine grow_drew ?_)))) (HQ.out.holes.below (by (repeat (first | exact grow_refl _ | refine grow_ext _ ?_ | refine grow_alloc _ ?_ | refine grow_drew ?_))))).mono ?_; rintro e w' ⟨rfl, x1, rfl⟩
    go_wp2
    refine bodyPost_ret (v := .tuple #[zeroF, .int .i64 1]) (by simp [results, Tryz.results16, go_sem, zeroF]) rfl ?_
    exact Ret.of (by (repeat (first | exact grow_refl _ | refine grow_ext _ ?_ | refine grow_alloc _ ?_ | refine grow_drew ?_)))
  rw [hb, if_pos rfl] at h
  have HM := Lib.hid (fun w hl hm => solidMember_v q.name q.l q.m q.u q.t q.cover q.agg q.poker true hb hq.name w hl hm)
  have hsol := (member_iff.1 hb).2.1
  by_cases he : (cutsE l rs x).2 = 0
  · rw [if_pos he] at h
    have hx : -1048576 ≤ x ∧ x ≤ 1048576 := by
      unfold cutsE at he
      split at he
      · split at he
        · rename_i h1; unfold inI at h1; simpa using h1
        · simp at he
      · simp at he
    have hlen := cutsE_len l rs x
    have hsz := fun c hc => (cutsE_small (l := l) (rs := rs) (x := x) c hc).2
    have HS := Lib.hid (fun w hl hm => section_c q.l q.m q.u q.t x w hl hm)
    rw [show sectR q.l q.m x = (sectI q.l q.m x, 0) by unfold sectR; rw [if_pos hsol, if_pos hx]] at HS
    have hsi := solid_iff.1 hsol
    have hne : q.l ≠ [] := by intro e; rw [e] at hsi; simp at hsi
    have hsr := sect_bound (m := q.m) hsi.2.2.1 hne x
    obtain ⟨S, hS⟩ : ∃ S, sectI q.l q.m x = S := ⟨_, rfl⟩
    rw [hS] at h HS hsr
    obtain ⟨L, hL⟩ : ∃ L, (cutsE l rs x).1 = L := ⟨_, rfl⟩
    rw [hL] at h HC hlen hsz
    rw [he] at HC
    obtain ⟨name, bl, ml, bu, bt, cover, agg, poker⟩ := q
    simp only at eu et HM HS hS
    subst eu et
    obtain ⟨hs0, hs1⟩ := hsr
    clear hq hl hr hb hsol hsi hne hS hL he hx
    by_cases h0 : S = 0
    · rw [if_pos h0] at h
      cases h
      subst h0
      clear hsz
      go_enter Tryz.func16, Tryz.ntmps16
      go_wp2_with fail
      go_at_call 45; refine (HM.out _ (HQ.out.boxes.below (by (repeat (first | exact grow_refl _ | refine grow_ext _ ?_ | refine grow_alloc _ ?_ | refine grow_drew ?_)))) (HQ.out.holes.below (by (repeat (first | exact grow_refl _ | refine grow_ext _ ?_ | refine grow_alloc _ ?_ | refine grow_drew ?_))))).mono ?_; rintro e w' ⟨rfl, x1, rfl⟩
      go_wp2_with fail
      go_at_call 33; refine (HC.out _ (HL.out.below (by (repeat (first | exact grow_refl _ | refine grow_ext _ ?_ | refine grow_alloc _ ?_ | refine grow_drew ?_)))) (HR.out.below (by (repeat (first | exact grow_refl _ | refine grow_ext _ ?_ | refine grow_alloc _ ?_ | refine grow_drew ?_))))).mono ?_; rintro e w' ⟨v8, rfl, hown, x2, rfl⟩
      obtain ⟨a8, c8, rfl, -, -, -⟩ := own_shape hown
      clear hown
      go_wp2_with fail
      go_at_call 25; refine (HS.out _ (HQ.out.boxes.below (by (repeat (first | exact grow_refl _ | refine grow_ext _ ?_ | refine grow_alloc _ ?_ | refine grow_drew ?_)))) (HQ.out.holes.below (by (repeat (first | exact grow_refl _ | refine grow_ext _ ?_ | refine grow_alloc _ ?_ | refine grow_drew ?_))))).mono ?_; rintro e w' ⟨rfl, x3, rfl⟩
      go_wp2
      refine bodyPost_ret (v := .tuple #[zeroF, .int .i64 16]) (by simp [results, Tryz.results16, go_sem, zeroF]) rfl ?_
      exact Ret.of (by (repeat (first | exact grow_refl _ | refine grow_ext _ ?_ | refine grow_alloc _ ?_ | refine grow_drew ?_)))
    · rw [if_neg h0] at h
      cases h
      have d0 : (S == 0) = false := by simpa using h0
      have HSZ := Lib.hid hsz
      have HST := Lib.hid (fun n h => steelT_range hsz n h)
      have HSA := Lib.hid (steelT_all L)
      have hst := steelT_range hsz L.length (Nat.le_refl _)
      rw [steelT_all] at hst
      obtain ⟨A, hA⟩ : ∃ A : Nat, (steelI L).toNat = A := ⟨_, rfl⟩
      obtain ⟨B, hB⟩ : ∃ B : Nat, (100 * S).toNat = B := ⟨_, rfl⟩
      rw [hA, hB]
      have HSI := Lib.hid (show steelT L L.length = (A : Int) by rw [steelT_all]; omega)
      have hw100 : wrap64 (100 * S) = (B : Int) := by rw [IntWalk.wrap64_in _ (by omega)]; omega
      have HMK := Lib.hid (fun w => make_c A B (by omega) (by omega) (by omega) w)
      obtain ⟨f1, f2, hF⟩ : ∃ f1 f2 : Int, fracV A B = .agg #[.int .i64 f1, .int .i64 f2] := ⟨_, _, rfl⟩
      rw [hF] at HMK ⊢
      clear hsz h0 hst hA hB hF hs0 hs1
      go_enter Tryz.func16, Tryz.ntmps16
      go_wp2_with fail
      go_at_call 45; refine (HM.out _ (HQ.out.boxes.below (by (repeat (first | exact grow_refl _ | refine grow_ext _ ?_ | refine grow_alloc _ ?_ | refine grow_drew ?_)))) (HQ.out.holes.below (by (repeat (first | exact grow_refl _ | refine grow_ext _ ?_ | refine grow_alloc _ ?_ | refine grow_drew ?_))))).mono ?_; rintro e w' ⟨rfl, x1, rfl⟩
      go_wp2_with fail
      go_at_call 33; refine (HC.out _ (HL.out.below (by (repeat (first | exact grow_refl _ | refine grow_ext _ ?_ | refine grow_alloc _ ?_ | refine grow_drew ?_)))) (HR.out.below (by (repeat (first | exact grow_refl _ | refine grow_ext _ ?_ | refine grow_alloc _ ?_ | refine grow_drew ?_))))).mono ?_; rintro e w' ⟨v8, rfl, hown, x2, rfl⟩
      obtain ⟨a8, c8, rfl, j2, j3, j4⟩ := Cts.of_own hown
      have J4 := Lib.hid j4
      clear hown j4
      go_wp2_with fail
      go_at_call 25; refine (HS.out _ (HQ.out.boxes.below (by (repeat (first | exact grow_refl _ | refine grow_ext _ ?_ | refine grow_alloc _ ?_ | refine grow_drew ?_)))) (HQ.out.holes.below (by (repeat (first | exact grow_refl _ | refine grow_ext _ ?_ | refine grow_alloc _ ?_ | refine grow_drew ?_))))).mono ?_; rintro e w' ⟨rfl, x3, rfl⟩
      go_wp2_with fail
      refine world_mask (fun W => Below w.heap.size w W ∧ Blk W (w.heap.size + 1) #[.int .i64 0, .int .i64 0] 52 ∧ ∀ i (h : i < L.length), ∃ b off, a8 = some ⟨b, off, none⟩ ∧ CtAt W b (off + i * 8) L[i]) _ ⟨by (repeat (first | exact grow_refl _ | refine grow_ext _ ?_ | refine grow_alloc _ ?_ | refine grow_drew ?_)), (((Blk.new' (by simp) _ _).ext _).ext _).ext _, fun i h => ?_⟩ ?_
      · obtain ⟨b, off, e, hb⟩ := J4.out i h
        exact ⟨b, off, e, hb.ext _⟩
      clear J4
      rintro W1 ⟨hb1, hb2, hb3⟩
      have HB := Lib.hid hb1
      have HBK := Lib.hid hb2
      have J4 := Lib.hid hb3
      clear hb1 hb2 hb3
      go_loopw [13, 49] (fun s i wr => ∃ n : Nat, n ≤ L.length ∧ i = .int .i64 n ∧ s = .int .i64 (steelT L n) ∧ ∃ z, wr = ext W1 z) (fun _ i _ => L.length - (intOf i).toNat)
      case atStart => exact ⟨0, by omega, rfl, by simp [steelT], ext_of (by (repeat (first | exact grow_refl _ | refine grow_ext _ ?_ | refine grow_alloc _ ?_ | refine grow_drew ?_)))⟩
      case round =>
        obtain ⟨n, hn, rfl, rfl, z, rfl⟩ := hrel
        by_cases hlt : n < L.length
        · have i1 : (0 : Int) ≤ (n : Int) := by omega
          have i2 : (n : Int) < (L.length : Int) := by omega
          obtain ⟨b0, o0, rfl, hp⟩ := J4.out n hlt
          obtain ⟨p0, p1, p2, p3, p4, p5, p6, p7⟩ := hp.ext z
          have HSU := Lib.hid (steelT_succ hlt)
          have hsz := HSZ.out _ (List.getElem_mem hlt)
          have h1 := HST.out n (by omega)
          generalize L[n] = c at *
          have har := areaI_range hsz
          obtain ⟨ar, hA⟩ : ∃ A, areaI c.size = A := ⟨_, rfl⟩
          have HA := Lib.hid (fun w => AreaSt_v c.size ar hsz hA w)
          rw [hA] at HSU har
          obtain ⟨T, hT⟩ : ∃ T, steelT L n = T := ⟨_, rfl⟩
          rw [hT] at h1 HSU ⊢
          clear hp hA hT hsz
          go_wp2_with fail
          go_at_call 27; refine (HA.out _).mono ?_; rintro e w' ⟨rfl, y2, rfl⟩
          clear p0 p1 p2 p3 p4 p5 p6 p7
          go_wp2
          go_roundw
          case rel => exact ⟨n + 1, by omega, by go_num, by rw [HSU.out], ext_of (by (repeat (first | exact grow_refl _ | refine grow_ext _ ?_ | refine grow_alloc _ ?_ | refine grow_drew ?_)))⟩
          case measure => simp [intOf]; omega
        · obtain rfl : n = L.length := by omega
          rw [HSI.out]
          have k0 : W1.cell? ⟨w.heap.size + 1, 0, none⟩ = some (.int .i64 0) := HBK.out.cell 0
          have k1 : W1.cell? ⟨w.heap.size + 1, 1, none⟩ = some (.int .i64 0) := HBK.out.cell 1
          have f0 := HBK.out.frozen 0
          have f1' := HBK.out.frozen 1
          go_wp2_with fail
          go_at_call 28; refine (HMK.out _).mono ?_; rintro e w' ⟨rfl, y3, rfl⟩
          go_wp2
          refine bodyPost_ret (v := .tuple #[.agg #[.int .i64 f1, .int .i64 f2], .int .i64 0]) (by simp [results, Tryz.results16, go_sem, k0, k1]) rfl ?_
          exact Ret.of (by
            repeat (first | refine grow_ext _ ?_ | exact (HB.out.setCell (p := ⟨w.heap.size + 1, 0, none⟩) (show w.heap.size ≤ w.heap.size + 1 by omega) _).setCell (p := ⟨w.heap.size + 1, 1, none⟩) (show w.heap.size ≤ w.heap.size + 1 by omega) _))
  · rw [if_neg he] at h
    cases h
    have d1 : ((cutsE l rs x).2 != 0) = true := by simpa using he
    generalize (cutsE l rs x).2 = E at *
    obtain ⟨name, bl, ml, bu, bt, cover, agg, poker⟩ := q
    simp only at eu et HM
    subst eu et
    clear hq hl hr hb he hsol
    go_enter Tryz.func16, Tryz.ntmps16
    go_wp2_with fail
    go_at_call 45; refine (HM.out _ (HQ.out.boxes.below (by (repeat (first | exact grow_refl _ | refine grow_ext _ ?_ | refine grow_alloc _ ?_ | refine grow_drew ?_)))) (HQ.out.holes.below (by (repeat (first | exact grow_refl _ | refine grow_ext _ ?_ | refine grow_alloc _ ?_ | refine grow_drew ?_))))).mono ?_; rintro e w' ⟨rfl, x1, rfl⟩
    go_wp2_with fail
    go_at_call 33; refine (HC.out _ (HL.out.below (by (repeat (first | exact grow_refl _ | refine grow_ext _ ?_ | refine grow_alloc _ ?_ | refine grow_drew ?_)))) (HR.out.below (by (repeat (first | exact grow_refl _ | refine grow_ext _ ?_ | refine grow_alloc _ ?_ | refine grow_drew ?_))))).mono ?_; rintro e w' ⟨v8, rfl, hown, x2, rfl⟩
    obtain ⟨a8, c8, rfl, -, -, -⟩ := own_shape hown
    clear hown
    go_wp2
    refine bodyPost_ret (v := .tuple #[zeroF, .int .i64 E]) (by simp [results, Tryz.results16, go_sem, zeroF]) rfl ?_
    exact Ret.of (by (repeat (first | exact grow_refl _ | refine grow_ext _ ?_ | refine grow_alloc _ ?_ | refine grow_drew ?_)))

end Go.Proofs.YtofjopdcbmaijaaGreat
