/- The greatest number with which the concrete of a member holds a core. -/
import Derived.Test.YtdldbdffaffjoaaCovB
namespace Go.Proofs.Ytdldbdffaffjoaa
open Go.RowKit

theorem held_ord {l m : List Bx} {b : Bx} (hs : solidB l m = true) (h : Ordd b) : (validB b && containsS l m b) = containsS l m b := by
  cases hc : containsS l m b
  · simp
  · rw [containsS_valid (solid_iff.1 hs).2.2.1 h hc]; rfl

set_option maxRecDepth 100000 in
set_option maxHeartbeats 1000000 in
theorem greatestA_c (q : Mb) (b : Bx) (j : Int) (r : Bool) (hr : containsS q.l q.m (grownX b j) = r) (hs : solidB q.l q.m = true) (hb : validB b = true) (hj : 0 ≤ j ∧ j ≤ 2097152) (g1 g2 g : Nat) (w : World) (hq : MbAt w q)
    (h1 : w.cell? ⟨g1, 0, none⟩ = some (.string q.name) ∧ w.cell? ⟨g1, 1, none⟩ = some q.u ∧ w.cell? ⟨g1, 2, none⟩ = some q.t ∧ w.cell? ⟨g1, 3, none⟩ = some (.int .i64 q.cover) ∧ w.cell? ⟨g1, 4, none⟩ = some (.int .i64 q.agg) ∧ w.cell? ⟨g1, 5, none⟩ = some (.int .i64 q.poker))
    (h2 : w.cell? ⟨g2, 0, none⟩ = some (.func (.func 33) #[] #[.pointer (some ⟨g, 0, none⟩)])) (hg : BoxAt w g 0 b) :
    Calls Try.prog 36 #[.int .i64 j, .pointer (some ⟨g1, 0, none⟩), .pointer (some ⟨g2, 0, none⟩)] w (Ret w (.bool (!r))) := by
  obtain ⟨c0, c1, c2, c3, c4, c5⟩ := h1
  have HQ := Lib.hid hq
  have HG := Lib.hid hg
  have HA := Lib.hid (fun w hg => ofOne_c b j hb hj g w hg)
  have ho : Ordd (grownX b j) := by have := valid_iff.1 hb; unfold Ordd; simp only [grownX]; omega
  have HH := Lib.hid (fun w hq => held_c q (grownX b j) r (by rw [held_ord hs ho]; exact hr) hs w hq)
  clear hq hg hb hr hs ho
  generalize grownX b j = B at *
  go_enter Try.func36, Try.ntmps36
  go_wp2_with fail
  refine wp_region_grows (by kernel_rfl) (by kernel_rfl) ?_
  repeat (go_big_quiet_step (first
    | (go_at_call 33; exact Calls.quiet_ext (HA.out _ (HG.out.ext _)))
    | (go_at_call 22; exact Calls.quiet_ext (HH.out _ (HQ.out.below (by (repeat (first | exact grow_refl _ | refine grow_ext _ ?_ | refine grow_alloc _ ?_ | refine grow_drew ?_))))))))
  refine wpQuiet_nil ?_; rintro _ ⟨xq, rfl⟩
  go_wp2
  go_ret
  exact Ret.of (by (repeat (first | exact grow_refl _ | refine grow_ext _ ?_ | refine grow_alloc _ ?_ | refine grow_drew ?_)))

set_option maxRecDepth 100000 in
set_option maxHeartbeats 1000000 in
theorem greatestB_c (q : Mb) (b : Bx) (i : Nat) (j : Int) (r : Bool) (hr : containsS q.l q.m (sideX b i j) = r) (hs : solidB q.l q.m = true) (hb : validB b = true) (hi : i < 6) (hj : 0 ≤ j ∧ j ≤ 2097152) (g1 g2 g k : Nat) (w : World) (hq : MbAt w q)
    (h1 : w.cell? ⟨g1, 0, none⟩ = some (.string q.name) ∧ w.cell? ⟨g1, 1, none⟩ = some q.u ∧ w.cell? ⟨g1, 2, none⟩ = some q.t ∧ w.cell? ⟨g1, 3, none⟩ = some (.int .i64 q.cover) ∧ w.cell? ⟨g1, 4, none⟩ = some (.int .i64 q.agg) ∧ w.cell? ⟨g1, 5, none⟩ = some (.int .i64 q.poker))
    (h2 : w.cell? ⟨g2, 0, none⟩ = some (.func (.func 24) #[] #[.pointer (some ⟨g, 0, none⟩), .pointer (some ⟨k, 0, none⟩)])) (hg : BoxAt w g 0 b) (hk : w.cell? ⟨k, 0, none⟩ = some (.int .i64 i)) :
    Calls Try.prog 36 #[.int .i64 j, .pointer (some ⟨g1, 0, none⟩), .pointer (some ⟨g2, 0, none⟩)] w (Ret w (.bool (!r))) := by
  obtain ⟨c0, c1, c2, c3, c4, c5⟩ := h1
  have HQ := Lib.hid hq
  have HG := Lib.hid hg
  have HA := Lib.hid (fun w hg hk => sidesOne_c b i j hb hi hj g k w hg hk)
  have ho : Ordd (sideX b i j) := by
    obtain ⟨n, rfl⟩ : ∃ n : Nat, j = n := ⟨j.toNat, by omega⟩
    exact (side_le (by have := valid_iff.1 hb; unfold Ordd; omega) i (Nat.le_refl n)).1
  have HH := Lib.hid (fun w hq => held_c q (sideX b i j) r (by rw [held_ord hs ho]; exact hr) hs w hq)
  have HK := Lib.hid hk
  clear hq hg hb hr hs ho hk
  generalize sideX b i j = B at *
  go_enter Try.func36, Try.ntmps36
  go_wp2_with fail
  refine wp_region_grows (by kernel_rfl) (by kernel_rfl) ?_
  repeat (go_big_quiet_step (first
    | (go_at_call 24; exact Calls.quiet_ext (HA.out _ (HG.out.ext _) (cell_ext_some HK.out _)))
    | (go_at_call 22; exact Calls.quiet_ext (HH.out _ (HQ.out.below (by (repeat (first | exact grow_refl _ | refine grow_ext _ ?_ | refine grow_alloc _ ?_ | refine grow_drew ?_))))))))
  refine wpQuiet_nil ?_; rintro _ ⟨xq, rfl⟩
  go_wp2
  go_ret
  exact Ret.of (by (repeat (first | exact grow_refl _ | refine grow_ext _ ?_ | refine grow_alloc _ ?_ | refine grow_drew ?_)))

theorem enters_greatest1 : Enters 36 := enters_of Try.func36 (by decide) (by simp [Try.f36])

theorem countP_top {p : Nat → Bool} (hm : ∀ a b, a ≤ b → p b = true → p a = true) : (∀ j, j < topN p 2097153 → p j = true) ∧ ∀ j, topN p 2097153 ≤ j → j < 2097153 → p j = false := by
  obtain ⟨h1, h2, h3⟩ := topN_spec p 2097153
  exact ⟨fun j hj => hm j _ (by omega) (h2 (by omega)), h3⟩
theorem BoxAt.below {w w' : World} {b off : Nat} {x : Bx} (h : BoxAt w b off x) (hb : Below w.heap.size w w') : BoxAt w' b off x := by
  obtain ⟨y, rfl⟩ := ext_of hb
  exact h.ext y
theorem cell_below {w w' : World} {a : Addr} {v : Value} (h : w.cell? a = some v) (hb : Below w.heap.size w w') : w'.cell? a = some v := by
  obtain ⟨y, rfl⟩ := ext_of hb
  exact cell_ext_some h y
/-- A member's cells. -/
def MCells (w : World) (g : Nat) (q : Mb) : Prop := w.cell? ⟨g, 0, none⟩ = some (.string q.name) ∧ w.cell? ⟨g, 1, none⟩ = some q.u ∧ w.cell? ⟨g, 2, none⟩ = some q.t ∧ w.cell? ⟨g, 3, none⟩ = some (.int .i64 q.cover) ∧ w.cell? ⟨g, 4, none⟩ = some (.int .i64 q.agg) ∧ w.cell? ⟨g, 5, none⟩ = some (.int .i64 q.poker)
theorem MCells.ext {w : World} {g : Nat} {q : Mb} (h : MCells w g q) (x : World) : MCells (ext w x) g q := ⟨cell_ext_some h.1 x, cell_ext_some h.2.1 x, cell_ext_some h.2.2.1 x, cell_ext_some h.2.2.2.1 x, cell_ext_some h.2.2.2.2.1 x, cell_ext_some h.2.2.2.2.2 x⟩
theorem ordd_of {b : Bx} (h : validB b = true) : Ordd b := by have := valid_iff.1 h; unfold Ordd; omega

set_option maxHeartbeats 1000000 in
theorem greatest_a (q : Mb) (b : Bx) (r : Int) (hr : coverC q.l q.m b = r) (hs : solidB q.l q.m = true) (hb : validB b = true) (g : Nat) (w : World) (hq : MbAt w q) (hg : BoxAt w g 0 b) :
    Calls Try.prog 23 #[(.agg #[.string q.name, q.u, q.t, .int .i64 q.cover, .int .i64 q.agg, .int .i64 q.poker]), .func (.func 33) #[] #[.pointer (some ⟨g, 0, none⟩)]] w (Ret w (.int .i64 r)) := by
  have hd := countP_top (p := fun c => containsS q.l q.m (grownX b c)) (cover_down (ordd_of hb))
  have hT := (topN_spec (fun c => containsS q.l q.m (grownX b c)) 2097153).1
  have hR : (topN (fun c => containsS q.l q.m (grownX b c)) 2097153 : Int) - 1 = r := hr
  generalize topN (fun c => containsS q.l q.m (grownX b c)) 2097153 = T at *
  subst hR
  have HS := Lib.hid (fun g1 g2 w2 (hq : MbAt w2 q) (h1 : MCells w2 g1 q) (h2 : w2.cell? ⟨g2, 0, none⟩ = some (.func (.func 33) #[] #[.pointer (some ⟨g, 0, none⟩)])) (hg : BoxAt w2 g 0 b) =>
    search_c 36 enters_greatest1 #[.pointer (some ⟨g1, 0, none⟩), .pointer (some ⟨g2, 0, none⟩)] 2097153 T (fun c => !containsS q.l q.m (grownX b c)) (by decide) hT (fun j hj => by simp only [hd.1 j hj, Bool.not_true]) (fun j h1 h2 => by simp only [hd.2 j h1 h2, Bool.not_false]) w2
      (fun j x hj => greatestA_c q b j _ rfl hs hb (by omega) g1 g2 g (ext w2 x) (hq.below (below_ext w2 x)) (h1.ext x) (cell_ext_some h2 x) (hg.ext x)))
  have HQ := Lib.hid hq
  have HG := Lib.hid hg
  clear hq hg hd hb
  go_enter Try.func23, Try.ntmps23
  go_wp2_with fail
  go_at_call 35; refine (HS.out w.heap.size (w.heap.size + 1) _ (HQ.out.below (by (repeat (first | exact grow_refl _ | refine grow_ext _ ?_ | refine grow_alloc _ ?_ | refine grow_drew ?_)))) (by simp [MCells, go_sem]) (by simp [go_sem]) (BoxAt.below HG.out (by (repeat (first | exact grow_refl _ | refine grow_ext _ ?_ | refine grow_alloc _ ?_ | refine grow_drew ?_))))).mono ?_; rintro e w' ⟨rfl, x1, rfl⟩
  go_wp2
  go_ret
  exact Ret.of (by (repeat (first | exact grow_refl _ | refine grow_ext _ ?_ | refine grow_alloc _ ?_ | refine grow_drew ?_)))

set_option maxHeartbeats 1000000 in
theorem greatest_b (q : Mb) (b : Bx) (i : Nat) (hi : i < 6) (r : Int) (hr : sideC q.l q.m b i = r) (hs : solidB q.l q.m = true) (hb : validB b = true) (g k : Nat) (w : World) (hq : MbAt w q) (hg : BoxAt w g 0 b) (hk : w.cell? ⟨k, 0, none⟩ = some (.int .i64 i)) :
    Calls Try.prog 23 #[(.agg #[.string q.name, q.u, q.t, .int .i64 q.cover, .int .i64 q.agg, .int .i64 q.poker]), .func (.func 24) #[] #[.pointer (some ⟨g, 0, none⟩), .pointer (some ⟨k, 0, none⟩)]] w (Ret w (.int .i64 r)) := by
  have hd := countP_top (p := fun c => containsS q.l q.m (sideX b i c)) (side_down (ordd_of hb) i)
  have hT := (topN_spec (fun c => containsS q.l q.m (sideX b i c)) 2097153).1
  have hR : (topN (fun c => containsS q.l q.m (sideX b i c)) 2097153 : Int) - 1 = r := hr
  generalize topN (fun c => containsS q.l q.m (sideX b i c)) 2097153 = T at *
  subst hR
  have HS := Lib.hid (fun g1 g2 w2 (hq : MbAt w2 q) (h1 : MCells w2 g1 q) (h2 : w2.cell? ⟨g2, 0, none⟩ = some (.func (.func 24) #[] #[.pointer (some ⟨g, 0, none⟩), .pointer (some ⟨k, 0, none⟩)])) (hg : BoxAt w2 g 0 b) (hk : w2.cell? ⟨k, 0, none⟩ = some (.int .i64 i)) =>
    search_c 36 enters_greatest1 #[.pointer (some ⟨g1, 0, none⟩), .pointer (some ⟨g2, 0, none⟩)] 2097153 T (fun c => !containsS q.l q.m (sideX b i c)) (by decide) hT (fun j hj => by simp only [hd.1 j hj, Bool.not_true]) (fun j h1 h2 => by simp only [hd.2 j h1 h2, Bool.not_false]) w2
      (fun j x hj => greatestB_c q b i j _ rfl hs hb hi (by omega) g1 g2 g k (ext w2 x) (hq.below (below_ext w2 x)) (h1.ext x) (cell_ext_some h2 x) (hg.ext x) (cell_ext_some hk x)))
  have HQ := Lib.hid hq
  have HG := Lib.hid hg
  have HK := Lib.hid hk
  clear hq hg hd hb hk
  go_enter Try.func23, Try.ntmps23
  go_wp2_with fail
  go_at_call 35; refine (HS.out w.heap.size (w.heap.size + 1) _ (HQ.out.below (by (repeat (first | exact grow_refl _ | refine grow_ext _ ?_ | refine grow_alloc _ ?_ | refine grow_drew ?_)))) (by simp [MCells, go_sem]) (by simp [go_sem]) (BoxAt.below HG.out (by (repeat (first | exact grow_refl _ | refine grow_ext _ ?_ | refine grow_alloc _ ?_ | refine grow_drew ?_)))) (cell_below HK.out (by (repeat (first | exact grow_refl _ | refine grow_ext _ ?_ | refine grow_alloc _ ?_ | refine grow_drew ?_))))).mono ?_; rintro e w' ⟨rfl, x1, rfl⟩
  go_wp2
  go_ret
  exact Ret.of (by (repeat (first | exact grow_refl _ | refine grow_ext _ ?_ | refine grow_alloc _ ?_ | refine grow_drew ?_)))

end Go.Proofs.Ytdldbdffaffjoaa
