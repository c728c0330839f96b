/- The reference's Choose. -/
import Derived.Test.YtolcpkpfndnkbaaFabL
namespace Go.Proofs.Ytolcpkpfndnkbaa
open Go.RowKit

set_option maxRecDepth 100000 in
set_option maxHeartbeats 4000000 in
theorem refChoose_c (l : List Fb) (v : Value) (m c : Int) (w : World) (hv : fabsB l = true) (hl : Fabs w v l) :
    Calls Try.prog 30 #[v, .int .i64 m, .int .i64 c] w (Ret w (.int .i64 (bestI (chooseN l m c l.length)))) := by
  obtain ⟨a, cap, rfl, hcap, hcap2, hcell⟩ := hl.shape
  have HC := Lib.hid hcell
  have HV := Lib.hid hv
  clear hcell hl hv
  go_enter Try.func30, Try.ntmps30
  go_wp2_with fail
  go_loopw [8, 7] (fun i b wr => ∃ k : Nat, k ≤ l.length ∧ i = .int .i64 k ∧ (∃ x, wr = ext w x) ∧ b = .int .i64 (bestI (chooseN l m c k))) (fun i _ _ => l.length - (intOf i).toNat)
  case atStart => exact ⟨0, Nat.zero_le _, rfl, ext_of (by (repeat (first | exact grow_refl _ | refine grow_ext _ ?_ | refine grow_alloc _ ?_ | refine grow_drew ?_))), rfl⟩
  case round =>
    obtain ⟨k, hk, rfl, ⟨x, rfl⟩, rfl⟩ := hrel
    by_cases hlt : k < l.length
    · obtain ⟨hns, b0, off, rfl, c0, c1, c2, c3, c4, c5⟩ := HC.out k hlt
      have HS := Lib.hid (choose_succ (m := m) (c := c) hlt)
      have HOK := Lib.hid (fabs_mem HV.out hlt)
      obtain ⟨f, hf⟩ : ∃ f, f = l[k] := ⟨_, rfl⟩
      rw [← hf] at hns c0 c1 c2 c3 c4 c5 HS HOK
      clear hf
      have HIN := Lib.hid (fun j g => choose_in (l := l) (m := m) (c := c) (k := k) (j := j) (g := g) hk)
      cases hb : hasB f m c
      · have HN := Lib.hid (show chooseN l m c (k + 1) = chooseN l m c k by rw [HS.out]; unfold stepC; rw [hb]; rfl)
        unfold hasB at hb
        generalize chooseN l m c k = best at HN HIN
        cases hm : decide (m ≤ f.main)
        · clear hb
          go_wp2_with fail
          refine wp_region_grows (by kernel_rfl) (by kernel_rfl) ?_
          repeat (go_big_quiet_step (fail))
          refine wpQuiet_nil ?_; rintro _ ⟨xq, rfl⟩
          go_wp2
          go_roundw
          case rel => exact ⟨k + 1, by omega, by go_num, ext_of (by (repeat (first | exact grow_refl _ | refine grow_ext _ ?_ | refine grow_alloc _ ?_ | refine grow_drew ?_))), by rw [HN.out]⟩
          case measure => simp [intOf]; omega
        · have hc : decide (c ≤ f.cross) = false := by rw [hm] at hb; exact hb
          clear hb
          go_wp2_with fail
          refine wp_region_grows (by kernel_rfl) (by kernel_rfl) ?_
          repeat (go_big_quiet_step (fail))
          refine wpQuiet_nil ?_; rintro _ ⟨xq, rfl⟩
          go_wp2
          go_roundw
          case rel => exact ⟨k + 1, by omega, by go_num, ext_of (by (repeat (first | exact grow_refl _ | refine grow_ext _ ?_ | refine grow_alloc _ ?_ | refine grow_drew ?_))), by rw [HN.out]⟩
          case measure => simp [intOf]; omega
      · have hb' := hb
        unfold hasB at hb'
        rw [Bool.and_eq_true] at hb'
        obtain ⟨hm, hc⟩ := hb'
        cases hbest : chooseN l m c k with
        | none =>
          have HN := Lib.hid (show chooseN l m c (k + 1) = some (k, f) by rw [HS.out, hbest]; unfold stepC; rw [hb]; rfl)
          clear hb hbest
          simp only [bestI]
          go_wp2_with fail
          refine wp_region_grows (by kernel_rfl) (by kernel_rfl) ?_
          repeat (go_big_quiet_step (fail))
          refine wpQuiet_nil ?_; rintro _ ⟨xq, rfl⟩
          go_wp2
          go_roundw
          case rel => exact ⟨k + 1, by omega, by go_num, ext_of (by (repeat (first | exact grow_refl _ | refine grow_ext _ ?_ | refine grow_alloc _ ?_ | refine grow_drew ?_))), by rw [HN.out]⟩
          case measure => simp [intOf]; omega
        | some p =>
          obtain ⟨j, g⟩ := p
          obtain ⟨hjk, hjg, _⟩ := HIN.out j g hbest
          have hjl : j < l.length := by omega
          obtain ⟨_, b1, off1, e1, d0, d1, d2, d3, d4, d5⟩ := HC.out j hjl
          cases e1
          rw [List.getElem?_eq_getElem hjl] at hjg
          have hg : l[j] = g := by injection hjg
          have hgk : fbOk g = true := by rw [← hg]; exact fabs_mem HV.out hjl
          rw [hg] at d0 d1 d2 d3 d4 d5
          have HL := Lib.hid (fun w => lighter_c f g HOK.out hgk w)
          have i1 : (0 : Int) ≤ (j : Int) := by omega
          have i2 : (j : Int) < (l.length : Int) := by omega
          have i3 : decide ((j : Int) < 0) = false := by simp
          cases hlb : lightB f g
          · have HN := Lib.hid (show chooseN l m c (k + 1) = some (j, g) by rw [HS.out, hbest]; unfold stepC; rw [hb, if_pos rfl]; dsimp only; rw [hlb]; rfl)
            rw [hlb] at HL
            clear hb hbest hg hjg hgk hlb
            simp only [bestI]
            go_wp2_with fail
            refine wp_region_grows (by kernel_rfl) (by kernel_rfl) ?_
            repeat (go_big_quiet_step ((go_at_call 53; exact Calls.quiet_ext (HL.out _))))
            refine wpQuiet_nil ?_; rintro _ ⟨xq, rfl⟩
            go_wp2
            go_roundw
            case rel => exact ⟨k + 1, by omega, by go_num, ext_of (by (repeat (first | exact grow_refl _ | refine grow_ext _ ?_ | refine grow_alloc _ ?_ | refine grow_drew ?_))), by rw [HN.out]⟩
            case measure => simp [intOf]; omega
          · have HN := Lib.hid (show chooseN l m c (k + 1) = some (k, f) by rw [HS.out, hbest]; unfold stepC; rw [hb, if_pos rfl]; dsimp only; rw [hlb]; rfl)
            rw [hlb] at HL
            clear hb hbest hg hjg hgk hlb
            simp only [bestI]
            go_wp2_with fail
            refine wp_region_grows (by kernel_rfl) (by kernel_rfl) ?_
            repeat (go_big_quiet_step ((go_at_call 53; exact Calls.quiet_ext (HL.out _))))
            refine wpQuiet_nil ?_; rintro _ ⟨xq, rfl⟩
            go_wp2
            go_roundw
            case rel => exact ⟨k + 1, by omega, by go_num, ext_of (by (repeat (first | exact grow_refl _ | refine grow_ext _ ?_ | refine grow_alloc _ ?_ | refine grow_drew ?_))), by rw [HN.out]⟩
            case measure => simp [intOf]; omega
    · obtain rfl : k = l.length := by omega
      go_wp2
      go_ret
      exact Ret.of (by (repeat (first | exact grow_refl _ | refine grow_ext _ ?_ | refine grow_alloc _ ?_ | refine grow_drew ?_)))

end Go.Proofs.Ytolcpkpfndnkbaa
