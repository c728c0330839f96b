/- Turned paths: frame.near, frame.Path, the line of a mark, laid.turned. -/
import Derived.Test.YtofjopdcbmaijaaLaidD5
import Derived.Test.YtofjopdcbmaijaaLaidD4
import Derived.Test.YtofjopdcbmaijaaLaidC
namespace Go.Proofs.Ytofjopdcbmaijaa
open Go.RowKit
set_option maxRecDepth 20000

theorem near_take_succ {l : List Pt} {m : Int} {k : Nat} (h : k < l.length) (h1 : ∀ j (hj : j < k) (h' : j < l.length), nearB l[j] m = true) (h2 : nearB l[k] m = true) : ∀ j (hj : j < k + 1) (h' : j < l.length), nearB l[j] m = true := by
  intro j hj h'
  rcases Nat.lt_or_ge j k with q | q
  · exact h1 j q h'
  · obtain rfl : j = k := by omega
    exact h2
theorem all_near_true {l : List Pt} {m : Int} (h : ∀ j (hj : j < l.length), nearB l[j] m = true) : (l.all fun p => nearB p m) = true := by
  rw [List.all_eq_true]
  intro p hp
  obtain ⟨j, hj, rfl⟩ := List.getElem_of_mem hp
  exact h j hj
theorem all_near_false {l : List Pt} {m : Int} {k : Nat} (hk : k < l.length) (h : nearB l[k] m = false) : (l.all fun p => nearB p m) = false := by
  rw [List.all_eq_false]
  exact ⟨_, List.getElem_mem hk, by rw [h]; exact Bool.false_ne_true⟩

set_option maxRecDepth 100000 in
set_option maxHeartbeats 2000000 in
theorem near_v (l : List Pt) (v : Value) (r : Bool) (h : (l.all fun p => nearB p 1048576) = r) (w : World) (hl : Pts w v l) : Calls Try.prog 88 #[v] w (Ret w (.bool r)) := by
  obtain ⟨a, cap, rfl, h2, h3, h4⟩ := hl
  have H4 := Lib.hid h4
  have HR := Lib.hid h
  clear h4 h
  go_enter Try.func88, Try.ntmps88
  go_wp2_with fail
  go_loopw [9] (fun i wr => ∃ k : Nat, k ≤ l.length ∧ i = .int .i64 k ∧ (∃ x, wr = ext w x) ∧ ∀ j (h : j < k) (h' : j < l.length), nearB l[j] 1048576 = true) (fun i _ => l.length - (intOf i).toNat)
  case atStart => exact ⟨0, by omega, rfl, ext_of (Below.refl _ _), fun j h => by omega⟩
  case round =>
    obtain ⟨k, hk, rfl, ⟨x, rfl⟩, hno⟩ := hrel
    have HNO := Lib.hid hno
    clear hno
    by_cases hlt : k < l.length
    · obtain ⟨b, off, rfl, c0, c1, c2⟩ := H4.out k hlt
      have c0 := cell_ext_some c0 x
      have c1 := cell_ext_some c1 x
      have c2 := cell_ext_some c2 x
      have q1 : (0 : Int) ≤ (k : Int) := by omega
      have q2 : (k : Int) < (l.length : Int) := by omega
      obtain ⟨p, hp⟩ : ∃ p, p = l[k] := ⟨_, rfl⟩
      rw [← hp] at c0 c1 c2
      have HP := Lib.hid hp
      clear hp
      go_wp2_with fail
      clear c0 c1 c2
      refine wp_loop_rounds 4 ?_
      rw [rounds_succ]
      by_cases hx : -1048576 ≤ p.x ∧ p.x ≤ 1048576
      · obtain ⟨hx1, hx2⟩ := hx
        go_wp2_with fail
        rw [rounds_succ]
        by_cases hy : -1048576 ≤ p.y ∧ p.y ≤ 1048576
        · obtain ⟨hy1, hy2⟩ := hy
          go_wp2_with fail
          rw [rounds_succ]
          by_cases hz : -1048576 ≤ p.z ∧ p.z ≤ 1048576
          · obtain ⟨hz1, hz2⟩ := hz
            have HK := Lib.hid (near_take_succ (m := 1048576) hlt HNO.out (by rw [← HP.out]; exact near_iff.2 ⟨⟨hx1, hx2⟩, ⟨hy1, hy2⟩, hz1, hz2⟩))
            go_wp2_with fail
            rw [rounds_succ]
            go_wp2
            go_roundw
            case rel => exact ⟨k + 1, by omega, by go_num, ext_of (by (repeat (first | exact grow_refl _ | refine grow_ext _ ?_ | refine grow_alloc _ ?_ | refine grow_drew ?_))), HK.out⟩
            case measure => simp [intOf]; omega
          · obtain rfl : false = r := by rw [← HR.out]; exact (all_near_false hlt (by rw [← HP.out, Bool.eq_false_iff]; exact fun q => hz (near_iff.1 q).2.2)).symm
            by_cases hz1 : p.z < -1048576
            · clear hz
              go_wp2
              go_ret
              exact Ret.of (by (repeat (first | exact grow_refl _ | refine grow_ext _ ?_ | refine grow_alloc _ ?_ | refine grow_drew ?_)))
            · have hz2 : 1048576 < p.z := by omega
              clear hz
              go_wp2
              go_ret
              exact Ret.of (by (repeat (first | exact grow_refl _ | refine grow_ext _ ?_ | refine grow_alloc _ ?_ | refine grow_drew ?_)))
        · obtain rfl : false = r := by rw [← HR.out]; exact (all_near_false hlt (by rw [← HP.out, Bool.eq_false_iff]; exact fun q => hy (near_iff.1 q).2.1)).symm
          by_cases hy1 : p.y < -1048576
          · clear hy
            go_wp2
            go_ret
            exact Ret.of (by (repeat (first | exact grow_refl _ | refine grow_ext _ ?_ | refine grow_alloc _ ?_ | refine grow_drew ?_)))
          · have hy2 : 1048576 < p.y := by omega
            clear hy
            go_wp2
            go_ret
            exact Ret.of (by (repeat (first | exact grow_refl _ | refine grow_ext _ ?_ | refine grow_alloc _ ?_ | refine grow_drew ?_)))
      · obtain rfl : false = r := by rw [← HR.out]; exact (all_near_false hlt (by rw [← HP.out, Bool.eq_false_iff]; exact fun q => hx (near_iff.1 q).1)).symm
        by_cases hx1 : p.x < -1048576
        · clear hx
          go_wp2
          go_ret
          exact Ret.of (by (repeat (first | exact grow_refl _ | refine grow_ext _ ?_ | refine grow_alloc _ ?_ | refine grow_drew ?_)))
        · have hx2 : 1048576 < p.x := by omega
          clear hx
          go_wp2
          go_ret
          exact Ret.of (by (repeat (first | exact grow_refl _ | refine grow_ext _ ?_ | refine grow_alloc _ ?_ | refine grow_drew ?_)))
    · obtain rfl : k = l.length := by omega
      obtain rfl : true = r := by rw [← HR.out]; exact (all_near_true fun j hj => HNO.out j hj hj).symm
      go_wp2
      go_ret
      exact Ret.of (by (repeat (first | exact grow_refl _ | refine grow_ext _ ?_ | refine grow_alloc _ ?_ | refine grow_drew ?_)))

end Go.Proofs.Ytofjopdcbmaijaa
