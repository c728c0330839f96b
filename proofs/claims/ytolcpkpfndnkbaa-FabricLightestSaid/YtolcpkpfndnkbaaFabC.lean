/- fabric.number, row, Row, given, Sheets, Mass. -/
import Derived.Test.YtolcpkpfndnkbaaFabB
import Derived.Test.YtolcpkpfndnkbaaBoxG
namespace Go.Proofs.Ytolcpkpfndnkbaa
open Go.RowKit

/-- How many sheets a row has. -/
def numI (total sheet lap : Int) : Int := if total ≤ sheet then 1 else 1 + (total - sheet + (sheet - lap) - 1) / (sheet - lap)
/-- The numbers of a row are right. -/
def rangeB (total sheet lap : Int) : Bool := inI total 1 1048576 && inI sheet 1 20000 && inI lap 0 (sheet - 1)
theorem range_iff {t s l : Int} : rangeB t s l = true ↔ (1 ≤ t ∧ t ≤ 1048576) ∧ (1 ≤ s ∧ s ≤ 20000) ∧ 0 ≤ l ∧ l ≤ s - 1 := by
  unfold rangeB; rw [Bool.and_eq_true, Bool.and_eq_true, inI_iff, inI_iff, inI_iff]; exact ⟨fun ⟨⟨a, b⟩, c⟩ => ⟨a, b, c⟩, fun ⟨a, b, c⟩ => ⟨⟨a, b⟩, c⟩⟩
theorem num_bound {t s l : Int} (h : rangeB t s l = true) : 1 ≤ numI t s l ∧ numI t s l ≤ 1048577 := by
  obtain ⟨h1, h2, h3⟩ := range_iff.1 h
  unfold numI
  split
  · omega
  · have a := Int.ediv_nonneg (a := t - s + (s - l) - 1) (b := s - l) (by omega) (by omega)
    have b : (t - s + (s - l) - 1) / (s - l) ≤ 1048576 := by
      refine Int.le_trans (Int.ediv_le_ediv (by omega) (show t - s + (s - l) - 1 ≤ 1048576 * (s - l) by
        have : 1048576 * 1 ≤ 1048576 * (s - l) := Int.mul_le_mul_of_nonneg_left (by omega) (by omega)
        have e : 1048576 * (s - l) = 1048575 * (s - l) + (s - l) := by omega
        omega)) ?_
      rw [Int.mul_ediv_cancel _ (by omega)]
      exact Int.le_refl _
    omega

set_option maxHeartbeats 400000 in
theorem number_c (t s l : Int) (h : rangeB t s l = true) (w : World) : Calls Try.prog 39 #[.int .i64 t, .int .i64 s, .int .i64 l] w (Ret w (.int .i64 (numI t s l))) := by
  obtain ⟨h1, h2, h3⟩ := range_iff.1 h
  have HR := Lib.hid h
  clear h
  by_cases hs : t ≤ s
  · have HN := Lib.hid (show numI t s l = 1 by unfold numI; rw [if_pos hs])
    go_enter Try.func39, Try.ntmps39
    go_wp2
    go_ret
    rw [HN.out]
    exact Ret.of (by (repeat (first | exact grow_refl _ | refine grow_ext _ ?_ | refine grow_alloc _ ?_ | refine grow_drew ?_)))
  · have hs' : s < t := by omega
    have hq : 0 ≤ t - s + (s - l) - 1 := by omega
    have hb : 1 ≤ s - l := by omega
    have HN := Lib.hid (show numI t s l = 1 + (t - s + (s - l) - 1) / (s - l) by unfold numI; rw [if_neg hs])
    have hd : (t - s + (s - l) - 1).tdiv (s - l) = (t - s + (s - l) - 1) / (s - l) := Int.tdiv_eq_ediv_of_nonneg hq
    have hnb := (num_bound HR.out).2
    rw [HN.out] at hnb
    have hnb0 := (num_bound HR.out).1
    rw [HN.out] at hnb0
    have HD := Lib.hid hd
    clear hd hs
    have hz : ((s - l) == 0) = false := beq_eq_false_iff_ne.2 (by omega)
    generalize hqq : (t - s + (s - l) - 1) / (s - l) = q at HN HD hnb hnb0
    clear hqq
    have hd := HD.out
    go_enter Try.func39, Try.ntmps39
    go_wp2
    go_ret
    rw [HN.out]
    exact Ret.of (by (repeat (first | exact grow_refl _ | refine grow_ext _ ?_ | refine grow_alloc _ ?_ | refine grow_drew ?_)))

def rowTo (t s l : Int) (k : Nat) : List (Int × Int) := (List.range k).map fun i : Nat => ((i : Int) * (s - l), min ((i : Int) * (s - l) + s) t)
def rowL (t s l : Int) : List (Int × Int) := rowTo t s l (numI t s l).toNat
theorem rowTo_length (t s l : Int) (k : Nat) : (rowTo t s l k).length = k := by unfold rowTo; simp
theorem rowTo_succ (t s l : Int) (k : Nat) : rowTo t s l (k + 1) = rowTo t s l k ++ [((k : Int) * (s - l), min ((k : Int) * (s - l) + s) t)] := by
  unfold rowTo; rw [List.range_succ, List.map_append]; rfl
theorem pairCells_append (a b : List (Int × Int)) : pairCells (a ++ b) = pairCells a ++ pairCells b := by unfold pairCells; rw [List.flatMap_append]
theorem info_span : (Try.prog.info? 31).map (fun i => (i.zero, i.size, i.bytes)) = some (some (.agg #[.int .i64 0, .int .i64 0]), 2, 16) := by kernel_rfl
theorem mul_step {k : Nat} {d : Int} (hk : (k : Int) ≤ 1048577) (h0 : 1 ≤ d) (h1 : d ≤ 20000) : 0 ≤ (k : Int) * d ∧ (k : Int) * d ≤ 20971540000 := by
  refine ⟨Int.mul_nonneg (by omega) (by omega), Int.le_trans (Int.mul_le_mul hk h1 (by omega) (by omega)) (by decide)⟩

set_option maxHeartbeats 1000000 in
theorem row_c (t s l : Int) (h : rangeB t s l = true) (w : World) :
    Calls Try.prog 40 #[.int .i64 t, .int .i64 s, .int .i64 l] w (RetOwn w 31 2 (rowL t s l).length (pairCells (rowL t s l))) := by
  obtain ⟨h1, h2, h3⟩ := range_iff.1 h
  have hnb := num_bound h
  have HR := Lib.hid h
  clear h
  have HL := Lib.hid (show rowL t s l = rowTo t s l (numI t s l).toNat from rfl)
  have HNC := Lib.hid (fun w => number_c t s l HR.out w)
  generalize numI t s l = n at hnb HL HNC
  go_enter Try.func40, Try.ntmps40
  go_wp2_with fail
  go_at_call 39; refine (HNC.out _).mono ?_; rintro e w' ⟨rfl, x0, rfl⟩
  go_wp2_with fail
  go_loopw [14, 7] (fun i v7 wr => ∃ k : Nat, (k : Int) ≤ n ∧ i = .int .i64 k ∧ (∃ x, wr = ext w x) ∧ wr.ownsRow w.heap.size 31 2 v7 (rowTo t s l k).length (pairCells (rowTo t s l k))) (fun i _ _ => n.toNat - (intOf i).toNat)
  case atStart => exact ⟨0, by omega, rfl, ⟨_, rfl⟩, by simpa [rowTo, pairCells] using World.ownsRow_nil _ _ _ _⟩
  case round =>
    obtain ⟨k, hk, rfl, ⟨x, rfl⟩, hO⟩ := hrel
    by_cases hlt : (k : Int) < n
    · have hm := mul_step (k := k) (d := s - l) (by omega) (by omega) (by omega)
      have hlen := rowTo_length t s l k
      have HRS := Lib.hid (rowTo_succ t s l k)
      have HLEN := Lib.hid hlen
      clear hlen
      go_wp2_with (at_builtin; refine app_own rfl _ _ 23 rfl 31 (.agg #[.int .i64 0, .int .i64 0]) 2 16 Try.underlying23 info_span rfl (by decide) w _ _ _ _ rfl (hO.alloc _) _ 1 1 [.int .i64 ((k : Int) * (s - l)), .int .i64 (min ((k : Int) * (s - l) + s) t)] rfl rfl (cells_new ?_ _ _ _ rfl) (by simp [Value.oneCell']) ?_ (by decide) ?_ ?_; (simp [size_ext]); (rw [HLEN.out]; omega); (repeat (first | exact grow_refl _ | refine grow_ext _ ?_ | refine grow_alloc _ ?_ | refine grow_drew ?_)); intro v' x' hown3 hgrow)
      go_roundw
      case rel => exact ⟨k + 1, by omega, by go_num, ⟨_, rfl⟩, by rw [HRS.out, pairCells_append, List.length_append]; exact hown3⟩
      case measure => simp [intOf]; omega
    · obtain rfl : n = k := by omega
      have HO := Lib.hid hO
      clear hO
      go_wp2
      go_ret
      rw [HL.out]
      exact ⟨_, rfl, by simpa using HO.out, ⟨_, rfl⟩⟩

/-- A slice of the call's own, and an error number. -/
def RetOwnE (w : World) (e : TypeId) (s n : Nat) (xs : List Value) (err : Int) (en : Ending) (w' : World) : Prop :=
  ∃ v, en = .returned (.tuple #[v, .int .i64 err]) ∧ w'.ownsRow w.heap.size e s v n xs ∧ ∃ x, w' = ext w x

def rowR (t s l : Int) : List (Int × Int) × Int := if rangeB t s l = true then (if 1000 < numI t s l then ([], 4) else (rowL t s l, 0)) else ([], 2)

set_option maxHeartbeats 1000000 in
theorem Row_c (t s l : Int) (w : World) : Calls Try.prog 12 #[.int .i64 t, .int .i64 s, .int .i64 l] w (RetOwnE w 31 2 (rowR t s l).1.length (pairCells (rowR t s l).1) (rowR t s l).2) := by
  cases h1 : inI t 1 1048576
  · have HR := Lib.hid (show rowR t s l = ([], 2) by unfold rowR rangeB; rw [h1]; rfl)
    go_enter Try.func12, Try.ntmps12
    go_wp2_with fail
    go_at_call 38; refine (within_v _ _ _ _ h1 _).mono ?_; rintro e w' ⟨rfl, x, rfl⟩
    go_wp2
    go_ret2
    rw [HR.out]
    exact ⟨_, rfl, World.ownsRow_nil _ _ _ _, ext_of (by (repeat (first | exact grow_refl _ | refine grow_ext _ ?_ | refine grow_alloc _ ?_ | refine grow_drew ?_)))⟩
  cases h2 : inI s 1 20000
  · have HR := Lib.hid (show rowR t s l = ([], 2) by unfold rowR rangeB; rw [h1, h2]; rfl)
    go_enter Try.func12, Try.ntmps12
    go_wp2_with fail
    go_at_call 38; refine (within_v _ _ _ _ h1 _).mono ?_; rintro e w' ⟨rfl, x, rfl⟩
    go_wp2_with fail
    go_at_call 38; refine (within_v _ _ _ _ h2 _).mono ?_; rintro e w' ⟨rfl, x, rfl⟩
    go_wp2
    go_ret2
    rw [HR.out]
    exact ⟨_, rfl, World.ownsRow_nil _ _ _ _, ext_of (by (repeat (first | exact grow_refl _ | refine grow_ext _ ?_ | refine grow_alloc _ ?_ | refine grow_drew ?_)))⟩
  have hs := inI_iff.1 h2
  cases h3 : inI l 0 (s - 1)
  · have HR := Lib.hid (show rowR t s l = ([], 2) by unfold rowR rangeB; rw [h1, h2, h3]; rfl)
    go_enter Try.func12, Try.ntmps12
    go_wp2_with fail
    go_at_call 38; refine (within_v _ _ _ _ h1 _).mono ?_; rintro e w' ⟨rfl, x, rfl⟩
    go_wp2_with fail
    go_at_call 38; refine (within_v _ _ _ _ h2 _).mono ?_; rintro e w' ⟨rfl, x, rfl⟩
    go_wp2_with fail
    go_at_call 38; refine (within_v _ _ _ _ h3 _).mono ?_; rintro e w' ⟨rfl, x, rfl⟩
    go_wp2
    go_ret2
    rw [HR.out]
    exact ⟨_, rfl, World.ownsRow_nil _ _ _ _, ext_of (by (repeat (first | exact grow_refl _ | refine grow_ext _ ?_ | refine grow_alloc _ ?_ | refine grow_drew ?_)))⟩
  have hr : rangeB t s l = true := by unfold rangeB; rw [h1, h2, h3]; rfl
  have HRG := Lib.hid hr
  clear hr
  by_cases hn : 1000 < numI t s l
  · have HR := Lib.hid (show rowR t s l = ([], 4) by unfold rowR; rw [if_pos HRG.out, if_pos hn])
    go_enter Try.func12, Try.ntmps12
    go_wp2_with fail
    go_at_call 38; refine (within_v _ _ _ _ h1 _).mono ?_; rintro e w' ⟨rfl, x, rfl⟩
    go_wp2_with fail
    go_at_call 38; refine (within_v _ _ _ _ h2 _).mono ?_; rintro e w' ⟨rfl, x, rfl⟩
    go_wp2_with fail
    go_at_call 38; refine (within_v _ _ _ _ h3 _).mono ?_; rintro e w' ⟨rfl, x, rfl⟩
    go_wp2_with fail
    go_at_call 39; refine (number_c t s l HRG.out _).mono ?_; rintro e w' ⟨rfl, x, rfl⟩
    go_wp2
    go_ret2
    rw [HR.out]
    exact ⟨_, rfl, World.ownsRow_nil _ _ _ _, ext_of (by (repeat (first | exact grow_refl _ | refine grow_ext _ ?_ | refine grow_alloc _ ?_ | refine grow_drew ?_)))⟩
  · have HR := Lib.hid (show rowR t s l = (rowL t s l, 0) by unfold rowR; rw [if_pos HRG.out, if_neg hn])
    have hn' : decide (1000 < numI t s l) = false := by simp; omega
    go_enter Try.func12, Try.ntmps12
    go_wp2_with fail
    go_at_call 38; refine (within_v _ _ _ _ h1 _).mono ?_; rintro e w' ⟨rfl, x, rfl⟩
    go_wp2_with fail
    go_at_call 38; refine (within_v _ _ _ _ h2 _).mono ?_; rintro e w' ⟨rfl, x, rfl⟩
    go_wp2_with fail
    go_at_call 38; refine (within_v _ _ _ _ h3 _).mono ?_; rintro e w' ⟨rfl, x, rfl⟩
    go_wp2_with fail
    go_at_call 39; refine (number_c t s l HRG.out _).mono ?_; rintro e w' ⟨rfl, x, rfl⟩
    go_wp2_with fail
    go_at_call 40; refine (row_c t s l HRG.out _).mono ?_; rintro e w' ⟨v, rfl, hown, y, rfl⟩
    have HO := Lib.hid hown
    clear hown
    go_wp2
    go_ret2
    rw [HR.out]
    exact ⟨_, rfl, own_mono HO.out (by simp [size_ext] <;> omega), ext_of (by (repeat (first | exact grow_refl _ | refine grow_ext _ ?_ | refine grow_alloc _ ?_ | refine grow_drew ?_)))⟩

end Go.Proofs.Ytolcpkpfndnkbaa
