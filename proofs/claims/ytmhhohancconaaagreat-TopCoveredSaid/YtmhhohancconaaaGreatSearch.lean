/- sort.Search, of a function that makes only memory: the place where what it says turns. -/
import Derived.Test.YtmhhohancconaaaGreatBoxK
namespace Go.Proofs.YtmhhohancconaaaGreat
open Go.RowKit
set_option maxRecDepth 20000

set_option maxRecDepth 100000 in
set_option maxHeartbeats 1000000 in
theorem search_c (F : Nat) (hE : Enters F) (caps : Array Value) (n k : Nat) (p : Nat → Bool) (hn : n ≤ 1000000000) (hk : k ≤ n) (h1 : ∀ j, j < k → p j = false) (h2 : ∀ j, k ≤ j → j < n → p j = true) (w : World)
    (hf : ∀ (j : Nat) x, j < n → Calls Tryz.prog F (#[.int .i64 j] ++ caps) (ext w x) (Ret (ext w x) (.bool (p j)))) :
    Calls Tryz.prog 99 #[.int .i64 n, .func (.func F) #[] caps] w (Ret w (.int .i64 k)) := by
  have HF := Lib.hid hf
  have H1 := Lib.hid h1
  have H2 := Lib.hid h2
  clear hf h1 h2
  go_enter Tryz.func99, Tryz.ntmps99
  go_wp2
  go_loopw [5, 6] (fun i j wr => ∃ lo hi : Nat, lo ≤ k ∧ k ≤ hi ∧ hi ≤ n ∧ i = .int .i64 lo ∧ j = .int .i64 hi ∧ ∃ x, wr = ext w x) (fun i j _ => (intOf j).toNat - (intOf i).toNat)
  case atStart => exact ⟨0, n, Nat.zero_le _, hk, Nat.le_refl _, rfl, rfl, ext_of (Below.refl _ _)⟩
  case round =>
    obtain ⟨lo, hi, q1, q2, q3, rfl, rfl, x, rfl⟩ := hrel
    by_cases hlt : lo < hi
    · have hc := HF.out ((lo + hi) / 2) x (by omega)
      rw [show (((lo + hi) / 2 : Nat) : Int) = ((lo : Int) + (hi : Int)) / 2 by omega] at hc
      have hg1 : (lo + hi) / 2 < hi := by omega
      have hg2 : lo ≤ (lo + hi) / 2 := by omega
      have hg3 := Lib.hid (show (((lo + hi) / 2 : Nat) : Int) = ((lo : Int) + (hi : Int)) / 2 by omega)
      cases hp : p ((lo + hi) / 2)
      · rw [hp] at hc
        have HC := Lib.hid hc
        have hlk : (lo + hi) / 2 < k := by
          rcases Nat.lt_or_ge ((lo + hi) / 2) k with h | h
          · exact h
          · rw [H2.out _ h (by omega)] at hp; exact absurd hp.symm Bool.false_ne_true
        clear hp hc
        go_wp2_with fail
        rw [show ∀ (a : Array Value) (w : World), (callFunc F a).run Tryz.prog w = .ok (.enter F a) w from hE, Oper.upon_enter]
        refine HC.out.mono ?_
        rintro e w' ⟨rfl, y, rfl⟩
        go_wp2
        go_roundw
        case rel => exact ⟨(lo + hi) / 2 + 1, hi, by omega, q2, q3, by rw [Int.natCast_add, hg3.out]; rfl, rfl, _, ext_ext _ _ _⟩
        case measure => simp [intOf]; omega
      · rw [hp] at hc
        have HC := Lib.hid hc
        have hlk : k ≤ (lo + hi) / 2 := by
          rcases Nat.lt_or_ge ((lo + hi) / 2) k with h | h
          · rw [H1.out _ h] at hp; exact absurd hp Bool.false_ne_true
          · exact h
        clear hp hc
        go_wp2_with fail
        rw [show ∀ (a : Array Value) (w : World), (callFunc F a).run Tryz.prog w = .ok (.enter F a) w from hE, Oper.upon_enter]
        refine HC.out.mono ?_
        rintro e w' ⟨rfl, y, rfl⟩
        go_wp2
        go_roundw
        case rel => exact ⟨lo, (lo + hi) / 2, q1, hlk, by omega, rfl, by rw [hg3.out], _, ext_ext _ _ _⟩
        case measure => simp [intOf]; omega
    · obtain rfl : lo = k := by omega
      go_wp2
      go_ret
      exact Ret.of (by (repeat (first | exact grow_refl _ | refine grow_ext _ ?_ | refine grow_alloc _ ?_ | refine grow_drew ?_)))

end Go.Proofs.YtmhhohancconaaaGreat
