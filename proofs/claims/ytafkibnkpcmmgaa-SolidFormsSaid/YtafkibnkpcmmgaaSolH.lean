/- The volume of a solid, and its cross-section: solid.Volume, solid.Section. -/
import Derived.Test.YtafkibnkpcmmgaaSolG
namespace Go.Proofs.Ytafkibnkpcmmgaa
open Go.RowKit

abbrev Thick := { b : Bx // thickB b = true }
def encT (x : Thick) : Array Value := #[(.agg #[.int .i64 x.1.lx, .int .i64 x.1.ly, .int .i64 x.1.lz, .int .i64 x.1.hx, .int .i64 x.1.hy, .int .i64 x.1.hz])]
def KpT (n₀ g : Nat) (W W' : World) : Prop := ∀ M, Keeps n₀ g M W W'
theorem KpT.trans {n₀ g : Nat} {A B C : World} (h : KpT n₀ g A B) (k : KpT n₀ g B C) : KpT n₀ g A C := fun M => (h M).trans (k M)
theorem KpT.book {n₀ g : Nat} {w : World} (hn : n₀ ≤ w.heap.size) (W : World) (l : Nat) (o o' : Obj) (hl : w.heap.size ≤ l) (h : W.heap[l]? = some o) (hc : o.isCells = false) (hw : o.isWalk = false) : KpT n₀ g W (W.putObj l o') := fun M =>
  ⟨belowK_b hn W l o o' hl h hc hw, (grownBy_putObj' W l o').size, fun k _ _ ⟨cs, t, fr, hk⟩ => (grownBy_putObj' W l o').block k (Array.getElem?_eq_some_iff.1 hk).1 (fun e => by cases e; rw [h] at hk; cases hk; cases hc)⟩
theorem grown_of_below {A B : World} (h : Below A.heap.size A B) : A.grownBy B none := ⟨h.os, h.tape, h.output, h.size, fun k hk _ => h.block k hk⟩

set_option maxRecDepth 100000 in
set_option maxHeartbeats 4000000 in
theorem volSeq (l m : List Bx) (u t : Value) (B n₀ g k : Nat) (w0 : World) (hs : solidB l m = true) (hn : n₀ ≤ w0.heap.size) (hg : g < w0.heap.size) (hbl : ∀ W', Below n₀ w0 W' → Boxes W' u l) (hbm : ∀ W', Below n₀ w0 W' → Boxes W' t m) (hu : w0.cell? ⟨B, 0, none⟩ = some u) (ht : w0.cell? ⟨B, 1, none⟩ = some t) :
    SeqStopsK Fence.wide k Try.prog 50 #[.pointer (some ⟨B, 0, none⟩)] encT (KpT n₀ g) (fun xs => xs.map (·.1) = cellsL l m) (fun _ => True) (cellsL l m).length w0 := by
  intro ll J Jx W hW hJ hJx hY h0
  refine callsIn_wide.2 ?_
  show Calls Try.prog 50 #[.func (.yield ll) #[] #[], .pointer (some ⟨B, 0, none⟩)] W _
  have hsi := solid_iff.1 hs
  have hne : l ≠ [] := by rintro rfl; simp at hsi
  have su := cell_below hu hW
  have st := cell_below ht hW
  have hJg : ∀ (xs : List Thick) (A A' : World), J xs A → Below A.heap.size A A' → J xs A' := fun xs A A' h hb => hJ xs A A' none h (grown_of_below hb) (fun r e => by cases e)
  have hJxg : ∀ (xs : List Thick) (A A' : World), Jx xs A → Below A.heap.size A A' → Jx xs A' := fun xs A A' h hb => hJx xs A A' none h (grown_of_below hb) (fun r e => by cases e)
  have hWn : Below n₀ w0 W := hW.mono hn
  have KE := Lib.hid (each_c l m u t (.func (.yield ll) #[] #[]) W n₀ g (Nat.le_trans hn hW.size) (Nat.lt_of_lt_of_le hg hW.size) (fun W' h => hbl W' (hWn.trans h)) (fun W' h => hbm W' (hWn.trans h)) hs
    (fun _ pre W => ∃ xs : List Thick, xs.map (·.1) = pre ∧ J xs W) (fun W => ∃ xs : List Thick, Jx xs W) (fun M pre A A' ⟨xs, e, h⟩ hb => ⟨xs, e, hJg xs A A' h hb⟩) (fun A A' ⟨xs, h⟩ hb => ⟨xs, hJxg xs A A' h hb⟩)
    (fun M pre x A hp hb hgA hM ⟨xs, e, h⟩ => by
      have hx : x ∈ cellsL l m := hp.subset (by simp)
      have hl := hp.length_le
      rw [List.length_append, List.length_singleton] at hl
      have hlen : xs.length < (cellsL l m).length := by rw [← e, List.length_map] at hl; omega
      obtain ⟨fn, tmps, assign, body, hy, hR⟩ := hY xs ⟨x, cells_valid hsi.2.2.1 hne hx⟩ A h hlen
      refine .inl ⟨ll, k - 1, rfl, fn, tmps, assign, body, hy, hR.mono ?_⟩
      rintro e' W' (⟨rfl, hj, hk⟩ | ⟨rfl, hj⟩)
      · exact .inl ⟨rfl, ⟨_, by rw [List.map_append, e]; rfl, hj⟩, hk M⟩
      · exact .inr ⟨rfl, _, hj⟩)
    (fun A hb => ⟨[], rfl, hJg [] W A h0 hb⟩))
  clear hY hJ hJx h0 hJg hJxg hbl hbm hs hsi hne hW hWn hu ht
  go_enter Try.func50, Try.ntmps50
  go_wp2_with fail
  go_at_call 51
  refine KE.out.mono ?_
  rintro e W' ⟨rfl, (⟨M, xs, e, hj⟩ | ⟨xs, hj⟩)⟩
  · go_wp2
    go_end0
    exact ⟨⟨_, rfl⟩, .inl ⟨xs, e, hj⟩⟩
  · go_wp2
    go_end0
    exact ⟨⟨_, rfl⟩, .inr ⟨xs, trivial, hj⟩⟩

set_option maxRecDepth 100000 in
set_option maxHeartbeats 4000000 in
theorem secSeq (l m : List Bx) (u t : Value) (B n₀ g k : Nat) (w0 : World) (hs : solidB l m = true) (hn : n₀ ≤ w0.heap.size) (hg : g < w0.heap.size) (hbl : ∀ W', Below n₀ w0 W' → Boxes W' u l) (hbm : ∀ W', Below n₀ w0 W' → Boxes W' t m) (hu : w0.cell? ⟨B, 0, none⟩ = some u) (ht : w0.cell? ⟨B, 1, none⟩ = some t) :
    SeqStopsK Fence.wide k Try.prog 56 #[.pointer (some ⟨B, 0, none⟩)] encT (KpT n₀ g) (fun xs => xs.map (·.1) = cellsL l m) (fun _ => True) (cellsL l m).length w0 := by
  intro ll J Jx W hW hJ hJx hY h0
  refine callsIn_wide.2 ?_
  show Calls Try.prog 56 #[.func (.yield ll) #[] #[], .pointer (some ⟨B, 0, none⟩)] W _
  have hsi := solid_iff.1 hs
  have hne : l ≠ [] := by rintro rfl; simp at hsi
  have su := cell_below hu hW
  have st := cell_below ht hW
  have hJg : ∀ (xs : List Thick) (A A' : World), J xs A → Below A.heap.size A A' → J xs A' := fun xs A A' h hb => hJ xs A A' none h (grown_of_below hb) (fun r e => by cases e)
  have hJxg : ∀ (xs : List Thick) (A A' : World), Jx xs A → Below A.heap.size A A' → Jx xs A' := fun xs A A' h hb => hJx xs A A' none h (grown_of_below hb) (fun r e => by cases e)
  have hWn : Below n₀ w0 W := hW.mono hn
  have KE := Lib.hid (each_c l m u t (.func (.yield ll) #[] #[]) W n₀ g (Nat.le_trans hn hW.size) (Nat.lt_of_lt_of_le hg hW.size) (fun W' h => hbl W' (hWn.trans h)) (fun W' h => hbm W' (hWn.trans h)) hs
    (fun _ pre W => ∃ xs : List Thick, xs.map (·.1) = pre ∧ J xs W) (fun W => ∃ xs : List Thick, Jx xs W) (fun M pre A A' ⟨xs, e, h⟩ hb => ⟨xs, e, hJg xs A A' h hb⟩) (fun A A' ⟨xs, h⟩ hb => ⟨xs, hJxg xs A A' h hb⟩)
    (fun M pre x A hp hb hgA hM ⟨xs, e, h⟩ => by
      have hx : x ∈ cellsL l m := hp.subset (by simp)
      have hl := hp.length_le
      rw [List.length_append, List.length_singleton] at hl
      have hlen : xs.length < (cellsL l m).length := by rw [← e, List.length_map] at hl; omega
      obtain ⟨fn, tmps, assign, body, hy, hR⟩ := hY xs ⟨x, cells_valid hsi.2.2.1 hne hx⟩ A h hlen
      refine .inl ⟨ll, k - 1, rfl, fn, tmps, assign, body, hy, hR.mono ?_⟩
      rintro e' W' (⟨rfl, hj, hk⟩ | ⟨rfl, hj⟩)
      · exact .inl ⟨rfl, ⟨_, by rw [List.map_append, e]; rfl, hj⟩, hk M⟩
      · exact .inr ⟨rfl, _, hj⟩)
    (fun A hb => ⟨[], rfl, hJg [] W A h0 hb⟩))
  clear hY hJ hJx h0 hJg hJxg hbl hbm hs hsi hne hW hWn hu ht
  go_enter Try.func56, Try.ntmps56
  go_wp2_with fail
  go_at_call 51
  refine KE.out.mono ?_
  rintro e W' ⟨rfl, (⟨M, xs, e, hj⟩ | ⟨xs, hj⟩)⟩
  · go_wp2
    go_end0
    exact ⟨⟨_, rfl⟩, .inl ⟨xs, e, hj⟩⟩
  · go_wp2
    go_end0
    exact ⟨⟨_, rfl⟩, .inr ⟨xs, trivial, hj⟩⟩

end Go.Proofs.Ytafkibnkpcmmgaa
