/- TopSteel: stirrupref23.Small. -/
import Derived.Test.YtkjljneehgmmaaaGreatTuB
namespace Go.Proofs.YtkjljneehgmmaaaGreat
set_option linter.unusedVariables false
set_option linter.unusedSimpArgs false
open Go Go.RowKit
set_option maxRecDepth 20000

set_option maxRecDepth 100000 in
set_option maxHeartbeats 8000000 in
theorem refSmall23_c (l : List Dm) (v : Value) (w : World) (hl : Dms w v l) : Calls Tryz.prog 49 #[v, .int .i64 4] w (RetP' w True) := by
 obtain ⟨a, cap, rfl, h2, h3, h4⟩ := hl.shape
 have H4 := hd0 h4
 clear hl h4
 cases e1 : decide ((25 : Int) < (l.length : Int))
 ·obtain ⟨t, et⟩ : ∃ t, decide ((4 : Int) < (l.length : Int)) = t := ⟨_, rfl⟩
  obtain ⟨u, eu⟩ : ∃ u, decide ((l.length : Int) ≤ 20) = u := ⟨_, rfl⟩
  have hbad : t = true ∧ u = true ∨ t = true ∧ u = false ∨ t = false := by cases t <;> cases u <;> simp
  rcases hbad with ⟨rfl, rfl⟩ | hok
  ·go_enter Tryz.func49, Tryz.ntmps49
   go_wp2
   go_ret
   exact ⟨false, rfl, fun h => (by cases h), ext_of gro⟩
  ·rcases hok with ⟨rfl, rfl⟩ | rfl
   all_goals (
    go_enter Tryz.func49, Tryz.ntmps49
    go_wp2_with fail
    clear et eu e1
    go_loopw [5, 6] (fun i _ wr => ∃ k : Nat, k ≤ l.length ∧ i = .int .i64 k ∧ ∃ x, wr = ext w x) (fun i _ _ => l.length - (intOf i).toNat)
    case atStart => exact ⟨0, by omega, rfl, ext_of gro⟩
    case round =>
     obtain ⟨k, hk, rfl, x, rfl⟩ := hrel
     by_cases hlt : k < l.length
     ·obtain ⟨ok, b, o, rfl, hbr⟩ := H4.out k hlt
      have i1 : (0 : Int) ≤ (k : Int) := by omega
      have i2 : (k : Int) < (l.length : Int) := by omega
      generalize l[k] = f at ok hbr
      obtain ⟨c0, c1, c2, c3, c4, c5, c6, c7⟩ := hbr.ext x
      obtain ⟨sa, sc, ev, -, -, -⟩ := ok.steps
      obtain ⟨name, zone, steps, dv⟩ := f
      simp only at ev c0 c1 c2 c3 c4 c5 c6 c7
      subst ev
      clear hbr ok
      generalize steps.length = n at *
      cases q1 : decide ((60 : Int) < (name.size : Int))
      ·cases q2 : decide ((205 : Int) < (n : Int))
       ·cases q3 : decide ((8 : Int) < (n : Int))
        ·go_wp2
         go_roundw
         case rel => exact ⟨k + 1, by omega, by go_num, ext_of gro⟩
         case measure => simp [intOf] <;> omega
        ·cases q4 : decide ((n : Int) ≤ 200)
         ·go_wp2
          go_roundw
          case rel => exact ⟨k + 1, by omega, by go_num, ext_of gro⟩
          case measure => simp [intOf] <;> omega
         ·go_wp2
          go_ret
          exact ⟨false, rfl, fun h => (by cases h), ext_of gro⟩
       ·have q3 : decide ((8 : Int) < (n : Int)) = true := by simp at q2 ⊢; omega
        have q4 : decide ((n : Int) ≤ 200) = false := by simp at q2 ⊢; omega
        go_wp2
        go_ret
        exact ⟨false, rfl, fun h => (by cases h), ext_of gro⟩
      ·go_wp2
       go_ret
       exact ⟨false, rfl, fun h => (by cases h), ext_of gro⟩
     ·obtain rfl : k = l.length := by omega
      go_wp2
      go_ret
      exact ⟨true, rfl, fun _ => trivial, ext_of gro⟩)
 ·have e2 : decide ((4 : Int) < (l.length : Int)) = true := by simp at e1 ⊢; omega
  have e3 : decide ((l.length : Int) ≤ 20) = false := by simp at e1 ⊢; omega
  go_enter Tryz.func49, Tryz.ntmps49
  go_wp2
  go_ret
  exact ⟨false, rfl, fun h => (by cases h), ext_of gro⟩
end Go.Proofs.YtkjljneehgmmaaaGreat
