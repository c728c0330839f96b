/- slices.Clone of fabrics; the two functions of the law on the lightest fabric. -/
import Derived.Test.YtolcpkpfndnkbaaPlainL
namespace Go.Proofs.Ytolcpkpfndnkbaa
open Go.RowKit

def fabCells (l : List Fb) : List Value := l.flatMap fun f => [.string f.name, .int .i64 f.main, .int .i64 f.cross, .int .i64 f.length, .int .i64 f.width, .int .i64 f.mass]
theorem fabCells_append (a b : List Fb) : fabCells (a ++ b) = fabCells a ++ fabCells b := by unfold fabCells; rw [List.flatMap_append]
theorem fabCells_length (l : List Fb) : (fabCells l).length = l.length * 6 := by
  unfold fabCells
  induction l with
  | nil => rfl
  | cons a l ih => simp only [List.flatMap_cons, List.length_append, ih, List.length_cons, List.length_nil]; omega
theorem fabCells_one (l : List Fb) : ∀ u ∈ fabCells l, u.oneCell' = true := by
  intro u hu
  unfold fabCells at hu
  obtain ⟨b, _, hb⟩ := List.mem_flatMap.1 hu
  simp only [List.mem_cons, List.not_mem_nil, or_false] at hb
  rcases hb with rfl | rfl | rfl | rfl | rfl | rfl <;> rfl
theorem fabCells_get (l : List Fb) (i : Nat) (h : i < l.length) : (fabCells l)[i * 6]? = some (.string l[i].name) ∧ (fabCells l)[i * 6 + 1]? = some (.int .i64 l[i].main) ∧ (fabCells l)[i * 6 + 2]? = some (.int .i64 l[i].cross) ∧
    (fabCells l)[i * 6 + 3]? = some (.int .i64 l[i].length) ∧ (fabCells l)[i * 6 + 4]? = some (.int .i64 l[i].width) ∧ (fabCells l)[i * 6 + 5]? = some (.int .i64 l[i].mass) := by
  have e : fabCells l = fabCells (l.take i) ++ ([.string l[i].name, .int .i64 l[i].main, .int .i64 l[i].cross, .int .i64 l[i].length, .int .i64 l[i].width, .int .i64 l[i].mass] ++ fabCells (l.drop (i + 1))) := by
    have h1 : l = l.take i ++ (l[i] :: l.drop (i + 1)) := by rw [← List.drop_eq_getElem_cons h, List.take_append_drop]
    conv => lhs; rw [h1]
    rw [fabCells_append]; rfl
  have hlen : (fabCells (l.take i)).length = i * 6 := by rw [fabCells_length, List.length_take]; omega
  have key : ∀ r, r < 6 → (fabCells l)[i * 6 + r]? = ([.string l[i].name, .int .i64 l[i].main, .int .i64 l[i].cross, .int .i64 l[i].length, .int .i64 l[i].width, .int .i64 l[i].mass] : List Value)[r]? := by
    intro r hr
    rw [e, List.getElem?_append_right (by omega), hlen, Nat.add_sub_cancel_left, List.getElem?_append_left (by simpa using hr)]
  exact ⟨key 0 (by omega), key 1 (by omega), key 2 (by omega), key 3 (by omega), key 4 (by omega), key 5 (by omega)⟩
theorem Fabs.of_own {w : World} {base : Nat} {e : TypeId} {v : Value} {l : List Fb} (hn : ∀ f ∈ l, f.name.size ≤ 9223372036854775807) (h : w.ownsRow base e 6 v l.length (fabCells l)) : Fabs w v l := by
  obtain ⟨a, cap, rfl, h1, h2, h3⟩ := own_shape h
  refine ⟨a, cap, rfl, h1, h2, fun i hi => ⟨hn _ (List.getElem_mem hi), ?_⟩⟩
  obtain ⟨g, rfl, _, hc⟩ := h3 (by omega)
  obtain ⟨p0, p1, p2, p3, p4, p5⟩ := fabCells_get l i hi
  refine ⟨g, 0, rfl, ?_⟩
  have hh := fun r (hr : r < 6) => hc (i * 6 + r) (by omega)
  exact ⟨by rw [Nat.zero_add]; exact (hh 0 (by omega)).trans p0, by rw [Nat.zero_add]; exact (hh 1 (by omega)).trans p1, by rw [Nat.zero_add]; exact (hh 2 (by omega)).trans p2, by rw [Nat.zero_add]; exact (hh 3 (by omega)).trans p3, by rw [Nat.zero_add]; exact (hh 4 (by omega)).trans p4, by rw [Nat.zero_add]; exact (hh 5 (by omega)).trans p5⟩
theorem Fabs.names {w : World} {v : Value} {l : List Fb} (h : Fabs w v l) : ∀ f ∈ l, f.name.size ≤ 9223372036854775807 := by
  obtain ⟨_, _, _, _, _, hc⟩ := h
  intro f hf
  obtain ⟨i, hi, rfl⟩ := List.getElem_of_mem hf
  exact (hc i hi).1

/-- The cells of a slice of fabrics, one after another. -/
theorem Fabs.cells {w : World} {ad : Addr} {cap : Nat} {l : List Fb} (h : Fabs w (.slice (some ad) l.length cap) l) : ∀ j u, (fabCells l)[j]? = some u → w.cell? (ad.add j) = some u := by
  intro j u hj
  obtain ⟨a, cap', he, _, _, hc⟩ := h
  cases he
  have hlt : j < (fabCells l).length := (List.getElem?_eq_some_iff.1 hj).1
  rw [fabCells_length] at hlt
  obtain ⟨i, r, hr, rfl⟩ : ∃ i r, r < 6 ∧ j = i * 6 + r := ⟨j / 6, j % 6, Nat.mod_lt _ (by decide), by omega⟩
  have hi : i < l.length := by omega
  obtain ⟨_, b, off, e, c0, c1, c2, c3, c4, c5⟩ := hc i hi
  cases e
  obtain ⟨d0, d1, d2, d3, d4, d5⟩ := fabCells_get l i hi
  have hadd : ∀ n, (⟨b, off, none⟩ : Addr).add n = ⟨b, off + n, none⟩ := fun n => by
    unfold Addr.add; split
    · rename_i h0; subst h0; rfl
    · rfl
  rw [hadd, ← Nat.add_assoc]
  have hr6 : r = 0 ∨ r = 1 ∨ r = 2 ∨ r = 3 ∨ r = 4 ∨ r = 5 := by omega
  rcases hr6 with rfl | rfl | rfl | rfl | rfl | rfl
  · rw [Nat.add_zero, d0] at hj; rw [Nat.add_zero, c0]; exact hj
  · rw [d1] at hj; rw [c1]; exact hj
  · rw [d2] at hj; rw [c2]; exact hj
  · rw [d3] at hj; rw [c3]; exact hj
  · rw [d4] at hj; rw [c4]; exact hj
  · rw [d5] at hj; rw [c5]; exact hj

theorem info_fab : (Try.prog.info? 34).map (fun i => (i.zero, i.size, i.bytes)) = some (some (.agg #[.string ⟨#[]⟩, .int .i64 0, .int .i64 0, .int .i64 0, .int .i64 0, .int .i64 0]), 6, 56) := by kernel_rfl

set_option maxHeartbeats 400000 in
theorem cloneF_c (l : List Fb) (v : Value) (w : World) (hl : Fabs w v l) (hlen : l.length ≤ 1000) :
    Calls Try.prog 36 #[v] w (RetOwn w 34 6 l.length (fabCells l)) := by
  obtain ⟨a, cap, rfl, hcap, hcap2, hcell⟩ := hl.shape
  have he := fun (w : World) (a : Option Addr) (n c : Nat) => Lib.run_eql_slice_nil (P := Try.prog) w 56 34 a n c 0 0 Try.underlying56
  cases a with
  | none =>
    have h0 : l = [] := by
      cases l with
      | nil => rfl
      | cons x r =>
        obtain ⟨_, _, _, e, _⟩ := hcell 0 (by simp)
        cases e
    subst h0
    clear hl hcell
    go_enter Try.func36, Try.ntmps36
    go_wp2
    go_ret
    exact ⟨_, rfl, World.ownsRow_nil _ _ _ _, ext_of (by (repeat (first | exact grow_refl _ | refine grow_ext _ ?_ | refine grow_alloc _ ?_ | refine grow_drew ?_)))⟩
  | some ad =>
    have HC := Lib.hid hl.cells
    clear hl hcell
    go_enter Try.func36, Try.ntmps36
    go_wp2_with (at_builtin; refine app_own_at rfl _ _ 56 rfl 34 (.agg #[.string ⟨#[]⟩, .int .i64 0, .int .i64 0, .int .i64 0, .int .i64 0, .int .i64 0]) 6 56 Try.underlying56 info_fab rfl (by decide) w _ 0 [] _ rfl (own_lit w #[] 0 _ [] rfl (Nat.le_refl _) (by decide) rfl rfl) ad l.length cap (fabCells l) rfl (fabCells_length l) ?_ (fabCells_one l) ?_ (by decide) ?_ ?_; (exact fun j u hj => cell_alloc_keep (HC.out j u hj) _); omega; (repeat (first | exact grow_refl _ | refine grow_ext _ ?_ | refine grow_alloc _ ?_ | refine grow_drew ?_)); intro v' x' hown3 hgrow)
    go_ret
    exact ⟨_, rfl, by simpa using hown3, ⟨_, rfl⟩⟩

set_option maxHeartbeats 1000000 in
theorem has1_c (f : Fb) (m c : Int) (g1 g2 : Nat) (w : World) (h1 : w.cell? ⟨g1, 0, none⟩ = some (.int .i64 m)) (h2 : w.cell? ⟨g2, 0, none⟩ = some (.int .i64 c)) :
    Calls Try.prog 33 #[(.agg #[.string f.name, .int .i64 f.main, .int .i64 f.cross, .int .i64 f.length, .int .i64 f.width, .int .i64 f.mass]), .pointer (some ⟨g1, 0, none⟩), .pointer (some ⟨g2, 0, none⟩)] w (Ret w (.bool (hasB f m c))) := by
  cases hm : decide (m ≤ f.main)
  · have HR := Lib.hid (show hasB f m c = false by unfold hasB; rw [hm]; rfl)
    go_enter Try.func33, Try.ntmps33
    go_wp2
    go_ret
    rw [HR.out]
    exact Ret.of (by (repeat (first | exact grow_refl _ | refine grow_ext _ ?_ | refine grow_alloc _ ?_ | refine grow_drew ?_)))
  · have HR := Lib.hid (show hasB f m c = decide (c ≤ f.cross) by unfold hasB; rw [hm]; rfl)
    go_enter Try.func33, Try.ntmps33
    go_wp2
    go_ret
    rw [HR.out]
    exact Ret.bool (by simp) (by (repeat (first | exact grow_refl _ | refine grow_ext _ ?_ | refine grow_alloc _ ?_ | refine grow_drew ?_)))
theorem enters_has1 : Enters 33 := enters_of Try.func33 (by decide) (by simp [Try.f33])

set_option maxHeartbeats 1000000 in
theorem light2_c (a b : Fb) (ha : fbOk a = true) (hb : fbOk b = true) (w : World) :
    Calls Try.prog 34 #[(.agg #[.string a.name, .int .i64 a.main, .int .i64 a.cross, .int .i64 a.length, .int .i64 a.width, .int .i64 a.mass]), (.agg #[.string b.name, .int .i64 b.main, .int .i64 b.cross, .int .i64 b.length, .int .i64 b.width, .int .i64 b.mass])] w (Ret w (.bool (lightB a b))) := by
  have B1 := light_bounds ha hb
  have B2 := light_bounds hb ha
  obtain ⟨⟨u1, u2⟩, ⟨u3, u4⟩⟩ := B1
  obtain ⟨⟨s1, s2⟩, ⟨s3, s4⟩⟩ := B2
  clear ha hb
  go_enter Try.func34, Try.ntmps34
  go_wp2_with fail
  go_ret
  exact Ret.bool (by unfold lightB; rfl) (by (repeat (first | exact grow_refl _ | refine grow_ext _ ?_ | refine grow_alloc _ ?_ | refine grow_drew ?_)))

end Go.Proofs.Ytolcpkpfndnkbaa
