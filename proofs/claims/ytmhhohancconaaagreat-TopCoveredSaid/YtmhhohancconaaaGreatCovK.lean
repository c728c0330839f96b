/- CovB, CovC, CovD in one text. -/
import Derived.Test.YtmhhohancconaaaGreatCovK0
import Derived.Test.YtmhhohancconaaaGreatSearch
import Derived.Test.YtmhhohancconaaaGreatSolK
import Derived.Test.YtmhhohancconaaaGreatPlainK1
import Derived.Test.YtmhhohancconaaaGreatGapK4
namespace Go.Proofs.YtmhhohancconaaaGreat
open Go.RowKit
set_option maxRecDepth 20000

def coreR (d : Int) (leg : Bx) : Bx × Bool := if sizeB d = true then ((grownR leg ((d + 1) / 2)).1, (grownR leg ((d + 1) / 2)).2 == 0) else (zeroX, false)
set_option maxHeartbeats 1000000 in
theorem core_c (d : Int) (leg : Bx) (w : World) : Calls Tryz.prog 73 #[.int .i64 d, (.agg #[.int .i64 leg.lx, .int .i64 leg.ly, .int .i64 leg.lz, .int .i64 leg.hx, .int .i64 leg.hy, .int .i64 leg.hz])] w (Ret w (.tuple #[(.agg #[.int .i64 (coreR d leg).1.lx, .int .i64 (coreR d leg).1.ly, .int .i64 (coreR d leg).1.lz, .int .i64 (coreR d leg).1.hx, .int .i64 (coreR d leg).1.hy, .int .i64 (coreR d leg).1.hz]), .bool (coreR d leg).2])) := by
  have HR := Lib.hid (fun w => Round_c d w)
  unfold coreR roundR at *
  cases h : sizeB d
  · rw [h] at HR
    simp only [Bool.false_eq_true, if_false] at HR ⊢
    go_enter Tryz.func73, Tryz.ntmps73
    go_wp2_with fail
    go_at_call 13; refine (HR.out _).mono ?_; rintro e w' ⟨rfl, x1, rfl⟩
    go_wp2
    refine bodyPost_ret (v := .tuple #[(.agg #[.int .i64 zeroX.lx, .int .i64 zeroX.ly, .int .i64 zeroX.lz, .int .i64 zeroX.hx, .int .i64 zeroX.hy, .int .i64 zeroX.hz]), .bool false]) (by simp [results, Tryz.results73, go_sem, zeroX]) rfl ?_
    exact Ret.of (by (repeat (first | exact grow_refl _ | refine grow_ext _ ?_ | refine grow_alloc _ ?_ | refine grow_drew ?_)))
  · rw [h] at HR
    simp only [if_true] at HR ⊢
    have HG := Lib.hid (fun w => Grown_c leg ((d + 1) / 2) w)
    generalize (grownR leg ((d + 1) / 2)).1 = G at *
    generalize (grownR leg ((d + 1) / 2)).2 = E at *
    generalize (d + 1) / 2 = r at *
    go_enter Tryz.func73, Tryz.ntmps73
    go_wp2_with fail
    go_at_call 13; refine (HR.out _).mono ?_; rintro e w' ⟨rfl, x1, rfl⟩
    go_wp2_with fail
    go_at_call 98; refine (HG.out _).mono ?_; rintro e w' ⟨rfl, x2, rfl⟩
    go_wp2
    refine bodyPost_ret (v := .tuple #[(.agg #[.int .i64 G.lx, .int .i64 G.ly, .int .i64 G.lz, .int .i64 G.hx, .int .i64 G.hy, .int .i64 G.hz]), .bool (E == 0)]) (by simp [results, Tryz.results73, go_sem]) rfl ?_
    exact Ret.of (by (repeat (first | exact grow_refl _ | refine grow_ext _ ?_ | refine grow_alloc _ ?_ | refine grow_drew ?_)))

set_option maxHeartbeats 1000000 in
theorem held_c (q : Mb) (b : Bx) (r : Bool) (hr : (validB b && containsS q.l q.m b) = r) (hs : solidB q.l q.m = true) (w : World) (hq : MbAt w q) :
    Calls Tryz.prog 101 #[(.agg #[.string q.name, q.u, q.t, .int .i64 q.cover, .int .i64 q.agg, .int .i64 q.poker]), (.agg #[.int .i64 b.lx, .int .i64 b.ly, .int .i64 b.lz, .int .i64 b.hx, .int .i64 b.hy, .int .i64 b.hz])] w (Ret w (.bool r)) := by
  have HQ := Lib.hid hq
  clear hq
  cases hv : validB b
  · rw [hv, Bool.false_and] at hr
    subst hr
    have HV := Lib.hid hv
    clear hv
    go_enter Tryz.func101, Tryz.ntmps101
    go_wp2_with fail
    go_at_call 34; refine (valid_v b _ HV.out _).mono ?_; rintro e w' ⟨rfl, x1, rfl⟩
    go_wp2
    go_ret
    exact Ret.of (by (repeat (first | exact grow_refl _ | refine grow_ext _ ?_ | refine grow_alloc _ ?_ | refine grow_drew ?_)))
  · rw [hv, Bool.true_and] at hr
    have HC := Lib.hid (fun w hl hm => solidContains_v q.l q.m q.u q.t b (r, 0) (by unfold containsR17; rw [if_pos ⟨hs, hv⟩, hr]) w hl hm)
    have HV := Lib.hid hv
    clear hv hr
    go_enter Tryz.func101, Tryz.ntmps101
    go_wp2_with fail
    go_at_call 34; refine (valid_v b _ HV.out _).mono ?_; rintro e w' ⟨rfl, x1, rfl⟩
    go_wp2_with fail
    go_at_call 35; refine (HC.out _ (HQ.out.boxes.below (by (repeat (first | exact grow_refl _ | refine grow_ext _ ?_ | refine grow_alloc _ ?_ | refine grow_drew ?_)))) (HQ.out.holes.below (by (repeat (first | exact grow_refl _ | refine grow_ext _ ?_ | refine grow_alloc _ ?_ | refine grow_drew ?_))))).mono ?_; rintro e w' ⟨rfl, x2, rfl⟩
    cases r
    all_goals
      go_wp2
      go_ret
      exact Ret.of (by (repeat (first | exact grow_refl _ | refine grow_ext _ ?_ | refine grow_alloc _ ?_ | refine grow_drew ?_)))

theorem coverAll_c (b : Bx) (c : Int) (hb : validB b = true) (hc : 0 ≤ c ∧ c ≤ 2097152) (w : World) : Calls Tryz.prog 76 #[(.agg #[.int .i64 b.lx, .int .i64 b.ly, .int .i64 b.lz, .int .i64 b.hx, .int .i64 b.hy, .int .i64 b.hz]), .int .i64 c] w (Ret w (.agg #[.int .i64 (grownX b c).lx, .int .i64 (grownX b c).ly, .int .i64 (grownX b c).lz, .int .i64 (grownX b c).hx, .int .i64 (grownX b c).hy, .int .i64 (grownX b c).hz])) := by
  have hv := valid_iff.1 hb
  clear hb
  go_enter Tryz.func76, Tryz.ntmps76
  go_wp2
  refine bodyPost_ret (v := (.agg #[.int .i64 (grownX b c).lx, .int .i64 (grownX b c).ly, .int .i64 (grownX b c).lz, .int .i64 (grownX b c).hx, .int .i64 (grownX b c).hy, .int .i64 (grownX b c).hz])) (by simp [results, Tryz.results76, go_sem, grownX]) rfl ?_
  exact Ret.of (by (repeat (first | exact grow_refl _ | refine grow_ext _ ?_ | refine grow_alloc _ ?_ | refine grow_drew ?_)))

theorem ofOne_c (b : Bx) (c : Int) (hb : validB b = true) (hc : 0 ≤ c ∧ c ≤ 2097152) (g : Nat) (w : World) (hg : BoxAt w g 0 b) : Calls Tryz.prog 75 #[.int .i64 c, .pointer (some ⟨g, 0, none⟩)] w (Ret w (.agg #[.int .i64 (grownX b c).lx, .int .i64 (grownX b c).ly, .int .i64 (grownX b c).lz, .int .i64 (grownX b c).hx, .int .i64 (grownX b c).hy, .int .i64 (grownX b c).hz])) := by
  obtain ⟨g0, g1, g2, g3, g4, g5⟩ := hg
  have HA := Lib.hid (fun w => coverAll_c b c hb hc w)
  go_enter Tryz.func75, Tryz.ntmps75
  go_wp2_with fail
  go_at_call 76; refine (HA.out _).mono ?_; rintro e w' ⟨rfl, x1, rfl⟩
  go_wp2
  refine bodyPost_ret (v := (.agg #[.int .i64 (grownX b c).lx, .int .i64 (grownX b c).ly, .int .i64 (grownX b c).lz, .int .i64 (grownX b c).hx, .int .i64 (grownX b c).hy, .int .i64 (grownX b c).hz])) (by simp [results, Tryz.results75, go_sem]) rfl ?_
  exact Ret.of (by (repeat (first | exact grow_refl _ | refine grow_ext _ ?_ | refine grow_alloc _ ?_ | refine grow_drew ?_)))
theorem enters_ofOne : Enters 75 := enters_of Tryz.func75 (by decide) (by simp [Tryz.f75])

end Go.Proofs.YtmhhohancconaaaGreat

namespace Go.Proofs.YtmhhohancconaaaGreat
open Go.RowKit
set_option maxRecDepth 20000

theorem held_ord {l m : List Bx} {b : Bx} (hs : solidB l m = true) (h : Ordd b) : (validB b && containsS l m b) = containsS l m b := by
  cases hc : containsS l m b
  · simp
  · rw [containsS_valid (solid_iff.1 hs).2.2.1 h hc]; rfl

set_option maxRecDepth 100000 in
set_option maxHeartbeats 1000000 in
theorem greatestA_c (q : Mb) (b : Bx) (j : Int) (r : Bool) (hr : containsS q.l q.m (grownX b j) = r) (hs : solidB q.l q.m = true) (hb : validB b = true) (hj : 0 ≤ j ∧ j ≤ 2097152) (g1 g2 g : Nat) (w : World) (hq : MbAt w q)
    (h1 : w.cell? ⟨g1, 0, none⟩ = some (.string q.name) ∧ w.cell? ⟨g1, 1, none⟩ = some q.u ∧ w.cell? ⟨g1, 2, none⟩ = some q.t ∧ w.cell? ⟨g1, 3, none⟩ = some (.int .i64 q.cover) ∧ w.cell? ⟨g1, 4, none⟩ = some (.int .i64 q.agg) ∧ w.cell? ⟨g1, 5, none⟩ = some (.int .i64 q.poker))
    (h2 : w.cell? ⟨g2, 0, none⟩ = some (.func (.func 75) #[] #[.pointer (some ⟨g, 0, none⟩)])) (hg : BoxAt w g 0 b) :
    Calls Tryz.prog 100 #[.int .i64 j, .pointer (some ⟨g1, 0, none⟩), .pointer (some ⟨g2, 0, none⟩)] w (Ret w (.bool (!r))) := by
  obtain ⟨c0, c1, c2, c3, c4, c5⟩ := h1
  have HQ := Lib.hid hq
  have HG := Lib.hid hg
  have HA := Lib.hid (fun w hg => ofOne_c b j hb hj g w hg)
  have ho : Ordd (grownX b j) := by have := valid_iff.1 hb; unfold Ordd; simp only [grownX]; omega
  have HH := Lib.hid (fun w hq => held_c q (grownX b j) r (by rw [held_ord hs ho]; exact hr) hs w hq)
  clear hq hg hb hr hs ho
  generalize grownX b j = B at *
  go_enter Tryz.func100, Tryz.ntmps100
  go_wp2_with fail
  refine wp_region_grows (by kernel_rfl) (by kernel_rfl) ?_
  repeat (go_big_quiet_step (first
    | (go_at_call 75; exact Calls.quiet_ext (HA.out _ (HG.out.ext _)))
    | (go_at_call 101; exact Calls.quiet_ext (HH.out _ (HQ.out.below (by (repeat (first | exact grow_refl _ | refine grow_ext _ ?_ | refine grow_alloc _ ?_ | refine grow_drew ?_))))))))
  refine wpQuiet_nil ?_; rintro _ ⟨xq, rfl⟩
  go_wp2
  go_ret
  exact Ret.of (by (repeat (first | exact grow_refl _ | refine grow_ext _ ?_ | refine grow_alloc _ ?_ | refine grow_drew ?_)))

theorem enters_greatest1 : Enters 100 := enters_of Tryz.func100 (by decide) (by simp [Tryz.f100])

theorem countP_top {p : Nat → Bool} (hm : ∀ a b, a ≤ b → p b = true → p a = true) : (∀ j, j < topN p 2097153 → p j = true) ∧ ∀ j, topN p 2097153 ≤ j → j < 2097153 → p j = false := by
  obtain ⟨h1, h2, h3⟩ := topN_spec p 2097153
  exact ⟨fun j hj => hm j _ (by omega) (h2 (by omega)), h3⟩
theorem BoxAt.below {w w' : World} {b off : Nat} {x : Bx} (h : BoxAt w b off x) (hb : Below w.heap.size w w') : BoxAt w' b off x := by
  obtain ⟨y, rfl⟩ := ext_of hb
  exact h.ext y
theorem cell_below {w w' : World} {a : Addr} {v : Value} (h : w.cell? a = some v) (hb : Below w.heap.size w w') : w'.cell? a = some v := by
  obtain ⟨y, rfl⟩ := ext_of hb
  exact cell_ext_some h y
/-- A member's cells. -/
def MCells (w : World) (g : Nat) (q : Mb) : Prop := w.cell? ⟨g, 0, none⟩ = some (.string q.name) ∧ w.cell? ⟨g, 1, none⟩ = some q.u ∧ w.cell? ⟨g, 2, none⟩ = some q.t ∧ w.cell? ⟨g, 3, none⟩ = some (.int .i64 q.cover) ∧ w.cell? ⟨g, 4, none⟩ = some (.int .i64 q.agg) ∧ w.cell? ⟨g, 5, none⟩ = some (.int .i64 q.poker)
theorem MCells.ext {w : World} {g : Nat} {q : Mb} (h : MCells w g q) (x : World) : MCells (ext w x) g q := ⟨cell_ext_some h.1 x, cell_ext_some h.2.1 x, cell_ext_some h.2.2.1 x, cell_ext_some h.2.2.2.1 x, cell_ext_some h.2.2.2.2.1 x, cell_ext_some h.2.2.2.2.2 x⟩
theorem ordd_of {b : Bx} (h : validB b = true) : Ordd b := by have := valid_iff.1 h; unfold Ordd; omega

set_option maxHeartbeats 1000000 in
theorem greatest_a (q : Mb) (b : Bx) (r : Int) (hr : coverC q.l q.m b = r) (hs : solidB q.l q.m = true) (hb : validB b = true) (g : Nat) (w : World) (hq : MbAt w q) (hg : BoxAt w g 0 b) :
    Calls Tryz.prog 74 #[(.agg #[.string q.name, q.u, q.t, .int .i64 q.cover, .int .i64 q.agg, .int .i64 q.poker]), .func (.func 75) #[] #[.pointer (some ⟨g, 0, none⟩)]] w (Ret w (.int .i64 r)) := by
  have hd := countP_top (p := fun c => containsS q.l q.m (grownX b c)) (cover_down (ordd_of hb))
  have hT := (topN_spec (fun c => containsS q.l q.m (grownX b c)) 2097153).1
  have hR : (topN (fun c => containsS q.l q.m (grownX b c)) 2097153 : Int) - 1 = r := hr
  generalize topN (fun c => containsS q.l q.m (grownX b c)) 2097153 = T at *
  subst hR
  have HS := Lib.hid (fun g1 g2 w2 (hq : MbAt w2 q) (h1 : MCells w2 g1 q) (h2 : w2.cell? ⟨g2, 0, none⟩ = some (.func (.func 75) #[] #[.pointer (some ⟨g, 0, none⟩)])) (hg : BoxAt w2 g 0 b) =>
    search_c 100 enters_greatest1 #[.pointer (some ⟨g1, 0, none⟩), .pointer (some ⟨g2, 0, none⟩)] 2097153 T (fun c => !containsS q.l q.m (grownX b c)) (by decide) hT (fun j hj => by simp only [hd.1 j hj, Bool.not_true]) (fun j h1 h2 => by simp only [hd.2 j h1 h2, Bool.not_false]) w2
      (fun j x hj => greatestA_c q b j _ rfl hs hb (by omega) g1 g2 g (ext w2 x) (hq.below (below_ext w2 x)) (h1.ext x) (cell_ext_some h2 x) (hg.ext x)))
  have HQ := Lib.hid hq
  have HG := Lib.hid hg
  clear hq hg hd hb
  go_enter Tryz.func74, Tryz.ntmps74
  go_wp2_with fail
  go_at_call 99; refine (HS.out w.heap.size (w.heap.size + 1) _ (HQ.out.below (by (repeat (first | exact grow_refl _ | refine grow_ext _ ?_ | refine grow_alloc _ ?_ | refine grow_drew ?_)))) (by simp [MCells, go_sem]) (by simp [go_sem]) (BoxAt.below HG.out (by (repeat (first | exact grow_refl _ | refine grow_ext _ ?_ | refine grow_alloc _ ?_ | refine grow_drew ?_))))).mono ?_; rintro e w' ⟨rfl, x1, rfl⟩
  go_wp2
  go_ret
  exact Ret.of (by (repeat (first | exact grow_refl _ | refine grow_ext _ ?_ | refine grow_alloc _ ?_ | refine grow_drew ?_)))

end Go.Proofs.YtmhhohancconaaaGreat

namespace Go.Proofs.YtmhhohancconaaaGreat
open Go.RowKit
set_option maxRecDepth 20000

theorem halfD_in {d : Int} (h : sizeB d = true) : 3 ≤ halfI d ∧ halfI d ≤ 20 := by
  have := size_iff.1 h
  unfold halfI; omega
/-- The core of a leg, valid or not. -/
def coreX (d : Int) (leg : Bx) : Bx := grownX leg (halfI d)
theorem core_ord {d : Int} {leg : Bx} (h : validB leg = true) (hd : sizeB d = true) : Ordd (coreX d leg) := by
  have h1 := halfD_in hd
  have h2 := valid_iff.1 h
  unfold Ordd coreX; simp only [grownX]; omega
theorem coreR_ok {d : Int} {leg : Bx} (h : validB leg = true) (hd : sizeB d = true) : coreR d leg = if validB (coreX d leg) = true then (coreX d leg, true) else (zeroX, false) := by
  have h1 := halfD_in hd
  have e : ¬ (halfI d < 0 ∨ 1048576 < halfI d) := by omega
  unfold coreR grownR
  rw [if_pos hd, h]
  simp only [Bool.true_eq_false, if_false]
  rw [show (d + 1) / 2 = halfI d from rfl, if_neg e]
  unfold coreX
  cases validB (grownX leg (halfI d)) <;> rfl

set_option maxHeartbeats 1000000 in
theorem of_c (q : Mb) (d : Int) (leg : Bx) (r : Int) (hr : coverC q.l q.m (coreX d leg) = r) (hs : solidB q.l q.m = true) (h : validB leg = true) (hd : sizeB d = true) (w : World) (hq : MbAt w q) :
    Calls Tryz.prog 47 #[(.agg #[.string q.name, q.u, q.t, .int .i64 q.cover, .int .i64 q.agg, .int .i64 q.poker]), .int .i64 d, (.agg #[.int .i64 leg.lx, .int .i64 leg.ly, .int .i64 leg.lz, .int .i64 leg.hx, .int .i64 leg.hy, .int .i64 leg.hz])] w (Ret w (.int .i64 r)) := by
  have HC := Lib.hid (fun w => core_c d leg w)
  rw [coreR_ok h hd] at HC
  have HQ := Lib.hid hq
  have ho := core_ord h hd
  clear hq h hd
  cases hv : validB (coreX d leg)
  · obtain rfl : -1 = r := by
      rw [← hr, cover_none ho]
      have := held_ord hs ho
      rw [hv] at this
      simpa using this.symm
    rw [hv] at HC
    simp only [Bool.false_eq_true, if_false, zeroX] at HC
    clear hr ho
    go_enter Tryz.func47, Tryz.ntmps47
    go_wp2_with fail
    go_at_call 73; refine (HC.out _).mono ?_; rintro e w' ⟨rfl, x1, rfl⟩
    go_wp2
    go_ret
    exact Ret.of (by (repeat (first | exact grow_refl _ | refine grow_ext _ ?_ | refine grow_alloc _ ?_ | refine grow_drew ?_)))
  · rw [hv] at HC
    simp only [if_true] at HC
    have HG := Lib.hid (fun g w hq hg => greatest_a q (coreX d leg) r hr hs hv g w hq hg)
    generalize coreX d leg = b at *
    clear hr ho hv
    go_enter Tryz.func47, Tryz.ntmps47
    go_wp2_with fail
    go_at_call 73; refine (HC.out _).mono ?_; rintro e w' ⟨rfl, x1, rfl⟩
    go_wp2_with fail
    go_at_call 74; refine (HG.out _ _ (HQ.out.below (by (repeat (first | exact grow_refl _ | refine grow_ext _ ?_ | refine grow_alloc _ ?_ | refine grow_drew ?_)))) (by simp [BoxAt, go_sem])).mono ?_; rintro e w' ⟨rfl, x2, rfl⟩
    go_wp2
    go_ret
    exact Ret.of (by (repeat (first | exact grow_refl _ | refine grow_ext _ ?_ | refine grow_alloc _ ?_ | refine grow_drew ?_)))

def mbB (q : Mb) : Bool := memberB q.name q.l q.m q.cover q.agg q.poker
def givenI (q : Mb) (d : Int) (leg : Bx) : Int := if mbB q = true ∧ validB leg = true then (if sizeB d = true then 0 else 11) else 1
theorem given_zero {q : Mb} {d : Int} {leg : Bx} : givenI q d leg = 0 ↔ mbB q = true ∧ validB leg = true ∧ sizeB d = true := by
  unfold givenI
  by_cases h : mbB q = true ∧ validB leg = true
  · rw [if_pos h]
    by_cases h2 : sizeB d = true
    · rw [if_pos h2]; exact ⟨fun _ => ⟨h.1, h.2, h2⟩, fun _ => rfl⟩
    · rw [if_neg h2]; exact ⟨fun e => absurd e (by decide), fun e => absurd e.2.2 h2⟩
  · rw [if_neg h]; exact ⟨fun e => absurd e (by decide), fun e => absurd ⟨e.1, e.2.1⟩ h⟩
theorem mb_solid {q : Mb} (h : mbB q = true) : solidB q.l q.m = true := (member_iff.1 h).2.1
def ofI (q : Mb) (d : Int) (leg : Bx) : Int := if givenI q d leg = 0 then coverC q.l q.m (coreX d leg) else 0
end Go.Proofs.YtmhhohancconaaaGreat

