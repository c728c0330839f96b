/- The reference's sizes. -/
import Derived.Test.YtofjopdcbmaijaaCovA
namespace Go.Proofs.Ytofjopdcbmaijaa
open Go.RowKit
set_option maxRecDepth 20000

theorem refSizes_c (w : World) : Calls Try.prog 27 #[] w (RetInts w sizesL) := by
  go_enter Try.func27, Try.ntmps27
  go_wp2
  refine bodyPost_ret (v := .slice (some ⟨w.heap.size, 0, none⟩) 9 9) (by simp [results, Try.results27, go_sem]) rfl ?_
  refine ⟨_, rfl, ⟨w.heap.size, 0, 9, rfl, by decide, by decide, ?_⟩, ext_of (by (repeat (first | exact grow_refl _ | refine grow_ext _ ?_ | refine grow_alloc _ ?_ | refine grow_drew ?_)))⟩
  intro i hi
  have hi9 : i < 9 := hi
  rcases (show i = 0 ∨ i = 1 ∨ i = 2 ∨ i = 3 ∨ i = 4 ∨ i = 5 ∨ i = 6 ∨ i = 7 ∨ i = 8 by omega) with rfl | rfl | rfl | rfl | rfl | rfl | rfl | rfl | rfl
  all_goals simp [go_sem, sizesL]

set_option maxRecDepth 100000 in
set_option maxHeartbeats 1000000 in
theorem refSize_v (d : Int) (r : Bool) (h : sizeB d = r) (w : World) : Calls Try.prog 10 #[.int .i64 d] w (Ret w (.bool r)) := by
  have HS := Lib.hid (fun w => refSizes_c w)
  have HR := Lib.hid h
  clear h
  go_enter Try.func10, Try.ntmps10
  go_wp2_with fail
  go_at_call 27; refine Calls.mono (HS.out _) ?_; rintro e w' ⟨v1, rfl, ⟨b, off, cap, rfl, h2, h3, h4⟩, x1, rfl⟩
  have H4 := Lib.hid h4
  clear h4
  have hlen : sizesL.length = 9 := rfl
  rw [hlen] at h2 ⊢
  go_wp2_with fail
  go_loopw [4] (fun i wr => ∃ k : Nat, k ≤ 9 ∧ i = .int .i64 k ∧ (∃ x, wr = ext (ext w x1) x) ∧ ∀ j (h : j < k) (h' : j < sizesL.length), (d == sizesL[j]) = false) (fun i _ => 9 - (intOf i).toNat)
  case atStart => exact ⟨0, by omega, rfl, ext_of (Below.refl _ _), fun j h => by omega⟩
  case round =>
    obtain ⟨k, hk, rfl, ⟨x, rfl⟩, hno⟩ := hrel
    have HNO := Lib.hid hno
    clear hno
    by_cases hlt : k < 9
    · have hc := cell_ext_some (H4.out k hlt) x
      have q1 : (0 : Int) ≤ (k : Int) := by omega
      have q2 : (k : Int) < 9 := by omega
      obtain ⟨a, ha⟩ : ∃ a, a = sizesL[k]'hlt := ⟨_, rfl⟩
      rw [← ha] at hc
      have HK := Lib.hid ha
      clear ha
      cases hp : (a == d)
      · have HP := Lib.hid (show (d == sizesL[k]'hlt) = false by rw [← HK.out]; rw [beq_eq_false_iff_ne] at hp ⊢; exact fun e => hp e.symm)
        go_wp2
        go_roundw
        case rel => exact ⟨k + 1, by omega, by go_num, ext_of (by (repeat (first | exact grow_refl _ | refine grow_ext _ ?_ | refine grow_alloc _ ?_ | refine grow_drew ?_))), fun j h1 h2 => by
          rcases Nat.lt_or_ge j k with h | h
          · exact HNO.out j h h2
          · obtain rfl : j = k := by omega
            exact HP.out⟩
        case measure => simp [intOf]; omega
      · have he : sizeB d = true := by
          unfold sizeB
          rw [List.any_eq_true]
          exact ⟨_, List.getElem_mem hlt, by rw [← HK.out]; exact beq_iff_eq.2 (beq_iff_eq.1 hp).symm⟩
        obtain rfl : true = r := by rw [← HR.out, he]
        go_wp2
        go_ret
        exact Ret.of (by (repeat (first | exact grow_refl _ | refine grow_ext _ ?_ | refine grow_alloc _ ?_ | refine grow_drew ?_)))
    · have he : sizeB d = false := by
        unfold sizeB
        rw [List.any_eq_false]
        intro z hz
        obtain ⟨j, hj, rfl⟩ := List.getElem_of_mem hz
        have := HNO.out j (by have : j < 9 := hj; omega) hj
        rw [this]; exact Bool.false_ne_true
      obtain rfl : false = r := by rw [← HR.out, he]
      go_wp2
      go_ret
      exact Ret.of (by (repeat (first | exact grow_refl _ | refine grow_ext _ ?_ | refine grow_alloc _ ?_ | refine grow_drew ?_)))

end Go.Proofs.Ytofjopdcbmaijaa
