/- CovA, RefSz in one text. -/
import Derived.Test.YtmhhohancconaaaGreatBoxK
namespace Go.Proofs.YtmhhohancconaaaGreat
open Go.RowKit
set_option maxRecDepth 20000

/-- Half of a size, rounded up. -/
def halfI (d : Int) : Int := (d + 1) / 2
/-- A slice value that reads as a list of numbers. -/
def Ints (w : World) (v : Value) (l : List Int) : Prop :=
  ∃ b off cap, v = .slice (some ⟨b, off, none⟩) l.length cap ∧ l.length ≤ cap ∧ cap ≤ 9223372036854775807 ∧ ∀ i (h : i < l.length), w.cell? ⟨b, off + i, none⟩ = some (.int .i64 l[i])
def RetInts (w : World) (l : List Int) (e : Ending) (w' : World) : Prop := ∃ v, e = .returned v ∧ Ints w' v l ∧ ∃ x, w' = ext w x
theorem Ints.ext {w : World} {v : Value} {l : List Int} (h : Ints w v l) (y : World) : Ints (ext w y) v l := by
  obtain ⟨b, off, cap, h1, h2, h3, h4⟩ := h
  exact ⟨b, off, cap, h1, h2, h3, fun i hi => cell_ext_some (h4 i hi) y⟩

set_option maxRecDepth 100000 in
set_option maxHeartbeats 400000 in
theorem indexInt_c (l : List Int) (d : Int) (v : Value) (w : World) (hl : Ints w v l) :
    Calls Tryz.prog 110 #[v, .int .i64 d] w (Ret w (.int .i64 (((l.findIdx? fun a => d == a).map (fun i : Nat => (i : Int))).getD (-1)))) := by
  obtain ⟨b, off, cap, rfl, h2, h3, h4⟩ := hl
  have hn : l.length ≤ 9223372036854775807 := by omega
  have H4 := Lib.hid h4
  clear h4
  go_enter Tryz.func110, Tryz.ntmps110
  go_wp2
  go_loopw [8, 5] (fun i j wr => ∃ k : Nat, k ≤ l.length ∧ i = .int .i64 k ∧ (∃ x, wr = ext w x) ∧ ∀ j (h : j < k) (h' : j < l.length), (d == l[j]) = false) (fun i j _ => l.length - (intOf i).toNat)
  case atStart => exact ⟨0, by omega, rfl, ext_of (Below.refl _ _), fun j h => by omega⟩
  case round =>
    obtain ⟨k, hk, rfl, ⟨x, rfl⟩, hno⟩ := hrel
    have HNO := Lib.hid hno
    clear hno
    by_cases hlt : k < l.length
    · have hc := H4.out k hlt
      have q1 : (0 : Int) ≤ (k : Int) := by omega
      have q2 : (k : Int) < (l.length : Int) := by omega
      obtain ⟨a, ha⟩ : ∃ a, a = l[k] := ⟨_, rfl⟩
      rw [← ha] at hc
      have HK := Lib.hid ha
      clear ha
      cases hp : (d == a)
      · have HP := Lib.hid (show (d == l[k]) = false by rw [← HK.out]; exact hp)
        go_wp2
        go_roundw
        case rel => exact ⟨k + 1, by omega, by go_num, ext_of (by (repeat (first | exact grow_refl _ | refine grow_ext _ ?_ | refine grow_alloc _ ?_ | refine grow_drew ?_))), fun j h1 h2 => by
          rcases Nat.lt_or_ge j k with h | h
          · exact HNO.out j h h2
          · obtain rfl : j = k := by omega
            exact HP.out⟩
        case measure => simp [intOf]; omega
      · have he : (l.findIdx? fun a => d == a) = some k := by
          rw [List.findIdx?_eq_some_iff_getElem]
          exact ⟨hlt, by rw [← HK.out]; exact hp, fun j hj => by simpa using HNO.out j hj (by omega)⟩
        have HE := Lib.hid he
        clear he
        go_wp2
        go_ret
        rw [HE.out]
        exact Ret.of (by (repeat (first | exact grow_refl _ | refine grow_ext _ ?_ | refine grow_alloc _ ?_ | refine grow_drew ?_)))
    · have he : (l.findIdx? fun a => d == a) = none := by
        rw [List.findIdx?_eq_none_iff]
        intro z hz
        obtain ⟨j, hj, rfl⟩ := List.getElem_of_mem hz
        exact HNO.out j (by omega) hj
      have HE := Lib.hid he
      clear he
      go_wp2
      go_ret
      rw [HE.out]
      exact Ret.of (by (repeat (first | exact grow_refl _ | refine grow_ext _ ?_ | refine grow_alloc _ ?_ | refine grow_drew ?_)))
theorem find_any_int {p : Int → Bool} {l : List Int} : (decide (0 ≤ (((l.findIdx? p).map (fun i : Nat => (i : Int))).getD (-1)))) = l.any p := by
  cases h : l.findIdx? p with
  | none =>
    have := List.findIdx?_eq_none_iff.1 h
    simp only [Option.map_none, Option.getD_none]
    rw [show (decide ((0 : Int) ≤ -1)) = false from rfl]
    symm; rw [List.any_eq_false]; intro x hx; simp [this x hx]
  | some k =>
    obtain ⟨hk, hp, _⟩ := List.findIdx?_eq_some_iff_getElem.1 h
    simp only [Option.map_some, Option.getD_some]
    rw [show (decide ((0 : Int) ≤ (k : Int))) = true by simp]
    symm; rw [List.any_eq_true]; exact ⟨_, List.getElem_mem hk, hp⟩
theorem containsInt_c (l : List Int) (d : Int) (v : Value) (w : World) (hl : Ints w v l) :
    Calls Tryz.prog 88 #[v, .int .i64 d] w (Ret w (.bool (l.any fun a => d == a))) := by
  have HI := Lib.hid (fun w hl => indexInt_c l d v w hl)
  have HL := Lib.hid hl
  clear hl
  have HA := Lib.hid (find_any_int (p := fun a => d == a) (l := l))
  generalize (l.any fun a => d == a) = r at *
  generalize (((l.findIdx? fun a => d == a).map (fun i : Nat => (i : Int))).getD (-1)) = k at *
  have hk : decide (0 ≤ k) = r := HA.out
  clear HA
  go_enter Tryz.func88, Tryz.ntmps88
  go_wp2_with fail
  go_at_call 110; refine (HI.out _ HL.out).mono ?_; rintro e w' ⟨rfl, x1, rfl⟩
  go_wp2
  go_ret
  exact Ret.of (by (repeat (first | exact grow_refl _ | refine grow_ext _ ?_ | refine grow_alloc _ ?_ | refine grow_drew ?_)))

def sizesL : List Int := [6, 8, 10, 12, 16, 20, 25, 32, 40]
def sizeB (d : Int) : Bool := sizesL.any fun a => d == a
theorem size_iff {d : Int} : sizeB d = true ↔ d = 6 ∨ d = 8 ∨ d = 10 ∨ d = 12 ∨ d = 16 ∨ d = 20 ∨ d = 25 ∨ d = 32 ∨ d = 40 := by
  unfold sizeB sizesL; simp
theorem sizes_c (w : World) : Calls Tryz.prog 89 #[] w (RetInts w sizesL) := by
  go_enter Tryz.func89, Tryz.ntmps89
  go_wp2
  refine bodyPost_ret (v := .slice (some ⟨w.heap.size, 0, none⟩) 9 9) (by simp [results, Tryz.results89, go_sem]) rfl ?_
  refine ⟨_, rfl, ⟨w.heap.size, 0, 9, rfl, by decide, by decide, ?_⟩, ext_of (by (repeat (first | exact grow_refl _ | refine grow_ext _ ?_ | refine grow_alloc _ ?_ | refine grow_drew ?_)))⟩
  intro i hi
  have hi9 : i < 9 := hi
  rcases (show i = 0 ∨ i = 1 ∨ i = 2 ∨ i = 3 ∨ i = 4 ∨ i = 5 ∨ i = 6 ∨ i = 7 ∨ i = 8 by omega) with rfl | rfl | rfl | rfl | rfl | rfl | rfl | rfl | rfl
  all_goals simp [go_sem, sizesL]

theorem size_v (d : Int) (r : Bool) (h : sizeB d = r) (w : World) : Calls Tryz.prog 54 #[.int .i64 d] w (Ret w (.bool r)) := by
  have HS := Lib.hid (fun w => sizes_c w)
  have HC := Lib.hid (fun v w hl => containsInt_c sizesL d v w hl)
  rw [show (sizesL.any fun a => d == a) = r from h] at HC
  clear h
  go_enter Tryz.func54, Tryz.ntmps54
  go_wp2_with fail
  go_at_call 89; refine Calls.mono (HS.out _) ?_; rintro e w' ⟨v1, rfl, hI, x1, rfl⟩
  have HI := Lib.hid hI
  clear hI
  go_wp2_with fail
  go_at_call 88; refine (HC.out _ _ HI.out).mono ?_; rintro e w' ⟨rfl, x2, rfl⟩
  go_wp2
  go_ret
  exact Ret.of (by (repeat (first | exact grow_refl _ | refine grow_ext _ ?_ | refine grow_alloc _ ?_ | refine grow_drew ?_)))

theorem round1_c (d : Int) (hd : 0 ≤ d ∧ d ≤ 1000) (g : Nat) (w : World) (hg : w.cell? ⟨g, 0, none⟩ = some (.int .i64 d)) : Calls Tryz.prog 30 #[.pointer (some ⟨g, 0, none⟩)] w (Ret w (.int .i64 ((d + 1) / 2))) := by
  have e : (d + 1).tdiv 2 = (d + 1) / 2 := Int.tdiv_eq_ediv_of_nonneg (by omega)
  go_enter Tryz.func30, Tryz.ntmps30
  go_wp2
  go_ret
  exact Ret.of (by (repeat (first | exact grow_refl _ | refine grow_ext _ ?_ | refine grow_alloc _ ?_ | refine grow_drew ?_)))
theorem enters_round1 : Enters 30 := enters_of Tryz.func30 (by decide) (by simp [Tryz.f30])

theorem sized_no (d : Int) (h : sizeB d = false) (F : Nat) (caps : Array Value) (w : World) :
    Calls Tryz.prog 29 #[.int .i64 d, .func (.func F) #[] caps] w (Ret w (.tuple #[.int .i64 0, .int .i64 1])) := by
  have HS := Lib.hid (fun w => size_v d false h w)
  clear h
  go_enter Tryz.func29, Tryz.ntmps29
  go_wp2_with fail
  go_at_call 54; refine (HS.out _).mono ?_; rintro e w' ⟨rfl, x1, rfl⟩
  go_wp2
  go_ret2
  exact Ret.of (by (repeat (first | exact grow_refl _ | refine grow_ext _ ?_ | refine grow_alloc _ ?_ | refine grow_drew ?_)))
theorem sized_ok (d n : Int) (h : sizeB d = true) (F : Nat) (hE : Enters F) (caps : Array Value) (w : World) (hf : ∀ x, Calls Tryz.prog F caps (ext w x) (Ret (ext w x) (.int .i64 n))) :
    Calls Tryz.prog 29 #[.int .i64 d, .func (.func F) #[] caps] w (Ret w (.tuple #[.int .i64 n, .int .i64 0])) := by
  have HS := Lib.hid (fun w => size_v d true h w)
  have HF := Lib.hid hf
  clear h hf
  go_enter Tryz.func29, Tryz.ntmps29
  go_wp2_with fail
  go_at_call 54; refine (HS.out _).mono ?_; rintro e w' ⟨rfl, x1, rfl⟩
  go_wp2_with fail
  rw [show ∀ (a : Array Value) (w : World), (callFunc F a).run Tryz.prog w = .ok (.enter F a) w from hE, Oper.upon_enter]
  refine (HF.out _).mono ?_
  rintro e w' ⟨rfl, y, rfl⟩
  go_wp2
  go_ret2
  exact Ret.of (by (repeat (first | exact grow_refl _ | refine grow_ext _ ?_ | refine grow_alloc _ ?_ | refine grow_drew ?_)))

def roundR (d : Int) : Int × Int := if sizeB d = true then ((d + 1) / 2, 0) else (0, 1)
theorem Round_c (d : Int) (w : World) : Calls Tryz.prog 13 #[.int .i64 d] w (Ret w (.tuple #[.int .i64 (roundR d).1, .int .i64 (roundR d).2])) := by
  unfold roundR
  cases h : sizeB d
  · have HN := Lib.hid (fun F caps w => sized_no d h F caps w)
    clear h
    simp only [Bool.false_eq_true, if_false]
    go_enter Tryz.func13, Tryz.ntmps13
    go_wp2_with fail
    go_at_call 29; refine (HN.out _ _ _).mono ?_; rintro e w' ⟨rfl, x1, rfl⟩
    go_wp2
    go_ret2
    exact Ret.of (by (repeat (first | exact grow_refl _ | refine grow_ext _ ?_ | refine grow_alloc _ ?_ | refine grow_drew ?_)))
  · have hd := size_iff.1 h
    have HN := Lib.hid (fun caps w hf => sized_ok d ((d + 1) / 2) h _ enters_round1 caps w hf)
    have HR := Lib.hid (fun g w hg => round1_c d (by omega) g w hg)
    clear h hd
    simp only [if_true]
    go_enter Tryz.func13, Tryz.ntmps13
    go_wp2_with fail
    go_at_call 29; refine (HN.out _ _ (fun x => HR.out _ _ (by simp [go_sem]))).mono ?_; rintro e w' ⟨rfl, x1, rfl⟩
    go_wp2
    go_ret2
    exact Ret.of (by (repeat (first | exact grow_refl _ | refine grow_ext _ ?_ | refine grow_alloc _ ?_ | refine grow_drew ?_)))

end Go.Proofs.YtmhhohancconaaaGreat

namespace Go.Proofs.YtmhhohancconaaaGreat
open Go.RowKit
set_option maxRecDepth 20000

end Go.Proofs.YtmhhohancconaaaGreat

