/- StA, RatA, MemA, Mb in one text. -/
import Derived.Test.YtmhhohancconaaaGreatCovK0
import Derived.Test.YtmhhohancconaaaGreatExtK
import Derived.Test.YtmhhohancconaaaGreatSolK
import Derived.Test.YtmhhohancconaaaGreatNameK
import Derived.Test.YtmhhohancconaaaGreatBoxK2
namespace Go.Proofs.YtmhhohancconaaaGreat
open Go.RowKit
set_option maxRecDepth 20000

def areaI (d : Int) : Int := (7854 * d * d + 50) / 100
theorem areaI_range {d : Int} (h : sizeB d = true) : 0 ≤ areaI d ∧ areaI d ≤ 130000 := by
  rcases size_iff.1 h with rfl | rfl | rfl | rfl | rfl | rfl | rfl | rfl | rfl <;> decide
end Go.Proofs.YtmhhohancconaaaGreat

namespace Go.Proofs.YtmhhohancconaaaGreat
open Go.RowKit
set_option maxRecDepth 20000

/-- The fraction in lowest terms, of numbers that are not negative. -/
def fracV (a b : Nat) : Value := .agg #[.int .i64 ((a / Nat.gcd a b : Nat) : Int), .int .i64 ((b / Nat.gcd a b : Nat) : Int)]

end Go.Proofs.YtmhhohancconaaaGreat

namespace Go.Proofs.YtmhhohancconaaaGreat
open Go.RowKit
set_option maxRecDepth 20000

def memberB (s : ByteArray) (l m : List Bx) (c a p : Int) : Bool := nameB s && (solidB l m && (inI c 0 200 && (inI a 1 100 && inI p 1 200)))
theorem member_iff {s : ByteArray} {l m : List Bx} {c a p : Int} : memberB s l m c a p = true ↔ nameB s = true ∧ solidB l m = true ∧ (0 ≤ c ∧ c ≤ 200) ∧ (1 ≤ a ∧ a ≤ 100) ∧ 1 ≤ p ∧ p ≤ 200 := by
  unfold memberB; simp only [Bool.and_eq_true, inI_iff]

theorem within17_v (n lo hi : Int) (r : Bool) (h : inI n lo hi = r) (w : World) : Calls Tryz.prog 52 #[.int .i64 n, .int .i64 lo, .int .i64 hi] w (Ret w (.bool r)) := by
  cases r
  · rcases inI_false h with h1 | h1
    · have d1 : decide (lo ≤ n) = false := by simp; omega
      clear h
      go_enter Tryz.func52, Tryz.ntmps52
      go_wp2
      go_ret
      exact Ret.of (by (repeat (first | exact grow_refl _ | refine grow_ext _ ?_ | refine grow_alloc _ ?_ | refine grow_drew ?_)))
    · have d1 : decide (n ≤ hi) = false := by simp; omega
      clear h
      go_enter Tryz.func52, Tryz.ntmps52
      go_wp2
      all_goals
        go_ret
        exact Ret.bool (by simp <;> omega) (by (repeat (first | exact grow_refl _ | refine grow_ext _ ?_ | refine grow_alloc _ ?_ | refine grow_drew ?_)))
  · have h1 := inI_iff.1 h
    clear h
    obtain ⟨h1, h2⟩ := h1
    go_enter Tryz.func52, Tryz.ntmps52
    go_wp2
    all_goals
      go_ret
      exact Ret.bool (by simp <;> omega) (by (repeat (first | exact grow_refl _ | refine grow_ext _ ?_ | refine grow_alloc _ ?_ | refine grow_drew ?_)))

set_option maxHeartbeats 2000000 in
theorem solidMember_v (s : ByteArray) (l m : List Bx) (u t : Value) (c a p : Int) (r : Bool) (hr : memberB s l m c a p = r) (hs : s.size ≤ 9223372036854775807) (w : World) (hl : Boxes w u l) (hm : Boxes w t m) :
    Calls Tryz.prog 27 #[.agg #[.string s, u, t, .int .i64 c, .int .i64 a, .int .i64 p]] w (Ret w (.bool r)) := by
  have HL := Lib.hid hl
  have HM := Lib.hid hm
  have HI := Lib.hid (fun r h w => isName_v s r h hs w)
  have HV := Lib.hid (fun r h w hl hm => solidValid_v l m u t r h w hl hm)
  clear hl hm
  unfold memberB at hr
  cases hn : nameB s
  · obtain rfl : false = r := by rw [hn] at hr; simpa using hr
    have HN := Lib.hid hn
    clear hn hr
    go_enter Tryz.func27, Tryz.ntmps27
    go_wp2_with fail
    go_at_call 53; refine (HI.out _ HN.out _).mono ?_; rintro e w' ⟨rfl, x1, rfl⟩
    go_wp2
    go_ret
    exact Ret.of (by (repeat (first | exact grow_refl _ | refine grow_ext _ ?_ | refine grow_alloc _ ?_ | refine grow_drew ?_)))
  have HN := Lib.hid hn
  rw [hn, Bool.true_and] at hr
  cases hb : solidB l m
  · obtain rfl : false = r := by rw [hb] at hr; simpa using hr
    have HB := Lib.hid hb
    clear hn hr hb
    go_enter Tryz.func27, Tryz.ntmps27
    go_wp2_with fail
    go_at_call 53; refine (HI.out _ HN.out _).mono ?_; rintro e w' ⟨rfl, x1, rfl⟩
    go_wp2_with fail
    go_at_call 33; refine (HV.out _ HB.out _ (HL.out.below (by (repeat (first | exact grow_refl _ | refine grow_ext _ ?_ | refine grow_alloc _ ?_ | refine grow_drew ?_)))) (HM.out.below (by (repeat (first | exact grow_refl _ | refine grow_ext _ ?_ | refine grow_alloc _ ?_ | refine grow_drew ?_))))).mono ?_; rintro e w' ⟨rfl, x2, rfl⟩
    go_wp2
    go_ret
    exact Ret.of (by (repeat (first | exact grow_refl _ | refine grow_ext _ ?_ | refine grow_alloc _ ?_ | refine grow_drew ?_)))
  have HB := Lib.hid hb
  rw [hb, Bool.true_and] at hr
  clear hn hb
  cases h1 : inI c 0 200
  · obtain rfl : false = r := by rw [h1] at hr; simpa using hr
    have H1 := Lib.hid h1
    clear h1 hr
    go_enter Tryz.func27, Tryz.ntmps27
    go_wp2_with fail
    go_at_call 53; refine (HI.out _ HN.out _).mono ?_; rintro e w' ⟨rfl, x1, rfl⟩
    go_wp2_with fail
    go_at_call 33; refine (HV.out _ HB.out _ (HL.out.below (by (repeat (first | exact grow_refl _ | refine grow_ext _ ?_ | refine grow_alloc _ ?_ | refine grow_drew ?_)))) (HM.out.below (by (repeat (first | exact grow_refl _ | refine grow_ext _ ?_ | refine grow_alloc _ ?_ | refine grow_drew ?_))))).mono ?_; rintro e w' ⟨rfl, x2, rfl⟩
    go_wp2_with fail
    go_at_call 52; refine (within17_v _ _ _ _ H1.out _).mono ?_; rintro e w' ⟨rfl, x3, rfl⟩
    go_wp2
    go_ret
    exact Ret.of (by (repeat (first | exact grow_refl _ | refine grow_ext _ ?_ | refine grow_alloc _ ?_ | refine grow_drew ?_)))
  have H1 := Lib.hid h1
  rw [h1, Bool.true_and] at hr
  clear h1
  cases h2 : inI a 1 100
  · obtain rfl : false = r := by rw [h2] at hr; simpa using hr
    have H2 := Lib.hid h2
    clear h2 hr
    go_enter Tryz.func27, Tryz.ntmps27
    go_wp2_with fail
    go_at_call 53; refine (HI.out _ HN.out _).mono ?_; rintro e w' ⟨rfl, x1, rfl⟩
    go_wp2_with fail
    go_at_call 33; refine (HV.out _ HB.out _ (HL.out.below (by (repeat (first | exact grow_refl _ | refine grow_ext _ ?_ | refine grow_alloc _ ?_ | refine grow_drew ?_)))) (HM.out.below (by (repeat (first | exact grow_refl _ | refine grow_ext _ ?_ | refine grow_alloc _ ?_ | refine grow_drew ?_))))).mono ?_; rintro e w' ⟨rfl, x2, rfl⟩
    go_wp2_with fail
    go_at_call 52; refine (within17_v _ _ _ _ H1.out _).mono ?_; rintro e w' ⟨rfl, x3, rfl⟩
    go_wp2_with fail
    go_at_call 52; refine (within17_v _ _ _ _ H2.out _).mono ?_; rintro e w' ⟨rfl, x4, rfl⟩
    go_wp2
    go_ret
    exact Ret.of (by (repeat (first | exact grow_refl _ | refine grow_ext _ ?_ | refine grow_alloc _ ?_ | refine grow_drew ?_)))
  have H2 := Lib.hid h2
  rw [h2, Bool.true_and] at hr
  clear h2
  have H3 := Lib.hid hr
  clear hr
  go_enter Tryz.func27, Tryz.ntmps27
  go_wp2_with fail
  go_at_call 53; refine (HI.out _ HN.out _).mono ?_; rintro e w' ⟨rfl, x1, rfl⟩
  go_wp2_with fail
  go_at_call 33; refine (HV.out _ HB.out _ (HL.out.below (by (repeat (first | exact grow_refl _ | refine grow_ext _ ?_ | refine grow_alloc _ ?_ | refine grow_drew ?_)))) (HM.out.below (by (repeat (first | exact grow_refl _ | refine grow_ext _ ?_ | refine grow_alloc _ ?_ | refine grow_drew ?_))))).mono ?_; rintro e w' ⟨rfl, x2, rfl⟩
  go_wp2_with fail
  go_at_call 52; refine (within17_v _ _ _ _ H1.out _).mono ?_; rintro e w' ⟨rfl, x3, rfl⟩
  go_wp2_with fail
  go_at_call 52; refine (within17_v _ _ _ _ H2.out _).mono ?_; rintro e w' ⟨rfl, x4, rfl⟩
  go_wp2_with fail
  go_at_call 52; refine (within17_v _ _ _ _ H3.out _).mono ?_; rintro e w' ⟨rfl, x5, rfl⟩
  go_wp2
  go_ret
  exact Ret.of (by (repeat (first | exact grow_refl _ | refine grow_ext _ ?_ | refine grow_alloc _ ?_ | refine grow_drew ?_)))

end Go.Proofs.YtmhhohancconaaaGreat

namespace Go.Proofs.YtmhhohancconaaaGreat
open Go.RowKit
set_option maxRecDepth 20000

structure Mb where
  name : ByteArray
  l : List Bx
  m : List Bx
  u : Value
  t : Value
  cover : Int
  agg : Int
  poker : Int

/-- A member's name and boxes are there. -/
structure MbAt (w : World) (x : Mb) : Prop where
  name : x.name.size ≤ 9223372036854775807
  boxes : Boxes w x.u x.l
  holes : Boxes w x.t x.m
theorem MbAt.below {w w' : World} {x : Mb} (h : MbAt w x) (hb : Below w.heap.size w w') : MbAt w' x := ⟨h.name, h.boxes.below hb, h.holes.below hb⟩

end Go.Proofs.YtmhhohancconaaaGreat

