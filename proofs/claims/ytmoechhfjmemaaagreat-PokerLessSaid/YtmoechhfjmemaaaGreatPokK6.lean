/- PokT, PokS, PokU, PokV in one text. -/
import Derived.Test.YtmoechhfjmemaaaGreatPokK5
import Derived.Test.YtmoechhfjmemaaaGreatPokK3
namespace Go.Proofs.YtmoechhfjmemaaaGreat
open Go.RowKit
set_option maxRecDepth 20000

theorem grid_iff {lo hi st x : Int} : x ∈ gridL lo hi st ↔ ∃ i : Nat, i < (cntI lo hi st).toNat ∧ x = lo + (i : Int) * st := by
  unfold gridL cntI
  simp only [List.mem_map, List.mem_range]
  constructor
  · rintro ⟨i, h, rfl⟩; exact ⟨i, h, rfl⟩
  · rintro ⟨i, h, rfl⟩; exact ⟨i, h, rfl⟩
theorem grid_inc (lo hi st : Int) (hs : 1 ≤ st) : (gridL lo hi st).Pairwise (· < ·) := by
  unfold gridL
  rw [List.pairwise_map]
  refine List.Pairwise.imp (fun {a b} h => ?_) List.pairwise_lt_range
  have h1 : (a : Int) < b := by omega
  have := Int.mul_lt_mul_of_pos_right h1 (show 0 < st by omega)
  omega

theorem lowest_mem {q : Mb} {R : List Rc} {x y : Int} {Z : List Int} {p : Pt} : p ∈ lowest q R x y Z ↔ ∃ k, ∃ h : k < Z.length, p = ⟨x, y, Z[k]⟩ ∧ freeR q R ⟨x, y, Z[k]⟩ = true ∧ ∀ j (hj : j < k), freeR q R ⟨x, y, Z[j]⟩ = false := by
  unfold lowest
  constructor
  · intro h
    split at h
    · rename_i z e
      obtain ⟨h1, i, hi, rfl, h2⟩ := List.find?_eq_some_iff_getElem.1 e
      simp only [List.mem_cons, List.not_mem_nil, or_false] at h
      exact ⟨i, hi, h, h1, fun j hj => by simpa using h2 j hj⟩
    · cases h
  · rintro ⟨k, h, rfl, h1, h2⟩
    have e : Z.find? (fun z => freeR q R ⟨x, y, z⟩) = some Z[k] := List.find?_eq_some_iff_getElem.2 ⟨h1, k, h, rfl, fun j hj => by simp [h2 j hj]⟩
    rw [e]; simp
theorem lowest_len (q : Mb) (R : List Rc) (x y : Int) (Z : List Int) : (lowest q R x y Z).length ≤ 1 := by
  unfold lowest; split <;> simp
theorem lowest_hit {q : Mb} {R : List Rc} {x y : Int} {Z : List Int} {k : Nat} (hk : k < Z.length) (h : ∀ z ∈ Z.take k, freeR q R ⟨x, y, z⟩ = false) (hf : freeR q R ⟨x, y, Z[k]⟩ = true) : lowest q R x y Z = [⟨x, y, Z[k]⟩] := by
  unfold lowest
  have e : Z.find? (fun z => freeR q R ⟨x, y, z⟩) = some Z[k] := List.find?_eq_some_iff_getElem.2 ⟨hf, k, hk, rfl, fun j hj => by
    have := h Z[j] (List.mem_take_iff_getElem.2 ⟨j, by omega, rfl⟩)
    simp [this]⟩
  rw [e]
theorem lowest_miss {q : Mb} {R : List Rc} {x y : Int} {Z : List Int} (h : ∀ z ∈ Z, freeR q R ⟨x, y, z⟩ = false) : lowest q R x y Z = [] := by
  unfold lowest
  rw [List.find?_eq_none.2 (fun z hz => by simp [h z hz])]
theorem miss_succ {q : Mb} {R : List Rc} {x y : Int} {Z : List Int} {k : Nat} (hk : k < Z.length) (h : ∀ z ∈ Z.take k, freeR q R ⟨x, y, z⟩ = false) (hf : freeR q R ⟨x, y, Z[k]⟩ = false) : ∀ z ∈ Z.take (k + 1), freeR q R ⟨x, y, z⟩ = false := by
  intro z hz
  rw [List.take_succ_eq_append_getElem hk] at hz
  rcases List.mem_append.1 hz with hz | hz
  · exact h z hz
  · simp only [List.mem_cons, List.not_mem_nil, or_false] at hz
    subst hz; exact hf
theorem pt_flat_take {α β : Type} (f : α → List β) {l : List α} {i : Nat} (h : i < l.length) : (l.take (i + 1)).flatMap f = (l.take i).flatMap f ++ f l[i] := by
  rw [List.take_succ_eq_append_getElem h, List.flatMap_append]; simp
theorem pt_flat_len {α β : Type} (f : α → List β) (n : Nat) (l : List α) (h : ∀ a, (f a).length ≤ n) : (l.flatMap f).length ≤ l.length * n := by
  induction l with
  | nil => simp
  | cons a l ih => rw [List.flatMap_cons, List.length_append, List.length_cons, Nat.add_mul]; have := h a; omega
def rowI (q : Mb) (R : List Rc) (x : Int) (Y Z : List Int) : List Pt := Y.flatMap fun y => lowest q R x y Z
theorem ptrow_len (q : Mb) (R : List Rc) (x : Int) (Y Z : List Int) : (rowI q R x Y Z).length ≤ Y.length := by
  have := pt_flat_len (fun y => lowest q R x y Z) 1 Y (fun y => lowest_len q R x y Z)
  unfold rowI; omega
theorem places_len (q : Mb) (R : List Rc) (X Y Z : List Int) : (placesI q R X Y Z).length ≤ X.length * Y.length := pt_flat_len (fun x => rowI q R x Y Z) _ X (fun x => ptrow_len q R x Y Z)
theorem places_take (q : Mb) (R : List Rc) (X Y Z : List Int) {i : Nat} (h : i < X.length) : placesI q R (X.take (i + 1)) Y Z = placesI q R (X.take i) Y Z ++ rowI q R X[i] Y Z := pt_flat_take _ h
theorem row_take (q : Mb) (R : List Rc) (x : Int) (Y Z : List Int) {j : Nat} (h : j < Y.length) : rowI q R x (Y.take (j + 1)) Z = rowI q R x (Y.take j) Z ++ lowest q R x Y[j] Z := pt_flat_take _ h
theorem row_few {q : Mb} {R : List Rc} {X Y Z : List Int} {x : Int} {i j n : Nat} (hn : X.length * Y.length ≤ n) (hi : i < X.length) (hj : j ≤ Y.length) : (placesI q R (X.take i) Y Z ++ rowI q R x (Y.take j) Z).length ≤ n := by
  rw [List.length_append]
  have h1 := places_len q R (X.take i) Y Z
  have h2 := ptrow_len q R x (Y.take j) Z
  rw [List.length_take, Nat.min_eq_left (by omega)] at h1
  rw [List.length_take, Nat.min_eq_left hj] at h2
  have h3 : (i + 1) * Y.length ≤ X.length * Y.length := Nat.mul_le_mul_right _ hi
  rw [Nat.add_mul] at h3
  omega
theorem places_mem {q : Mb} {R : List Rc} {X Y Z : List Int} {p : Pt} : p ∈ placesI q R X Y Z ↔ ∃ x ∈ X, ∃ y ∈ Y, p ∈ lowest q R x y Z := by
  unfold placesI
  simp only [List.mem_flatMap]
theorem lowest_xy {q : Mb} {R : List Rc} {x y : Int} {Z : List Int} {p : Pt} (h : p ∈ lowest q R x y Z) : p.x = x ∧ p.y = y := by
  obtain ⟨k, hk, rfl, -⟩ := lowest_mem.1 h
  exact ⟨rfl, rfl⟩
theorem places_order {q : Mb} {R : List Rc} {X Y Z : List Int} (hX : X.Pairwise (· < ·)) (hY : Y.Pairwise (· < ·)) : (placesI q R X Y Z).Pairwise (fun p p' => p.x < p'.x ∨ p.x = p'.x ∧ p.y < p'.y) := by
  unfold placesI
  rw [List.pairwise_flatMap]
  refine ⟨fun x _ => ?_, ?_⟩
  · rw [List.pairwise_flatMap]
    refine ⟨fun y _ => ?_, ?_⟩
    · have := lowest_len q R x y Z
      match h : lowest q R x y Z with
      | [] => exact List.Pairwise.nil
      | [a] => simp
      | a :: b :: l => rw [h] at this; simp at this
    · refine hY.imp (fun {a b} hab p hp p' hp' => ?_)
      have h1 := lowest_xy hp
      have h2 := lowest_xy hp'
      omega
  · refine hX.imp (fun {a b} hab p hp p' hp' => ?_)
    obtain ⟨y, _, hp⟩ := List.mem_flatMap.1 hp
    obtain ⟨y', _, hp'⟩ := List.mem_flatMap.1 hp'
    have h1 := lowest_xy hp
    have h2 := lowest_xy hp'
    omega

/- Dry points. -/
def isDry (q : Mb) (P : List Pt) (reach : Int) (p : Pt) : Bool := !reachedB P reach p && containsS q.l q.m ⟨p.x, p.y, p.z, p.x, p.y, p.z⟩
theorem dry_mem {q : Mb} {P : List Pt} {reach : Int} {X Y Z : List Int} {p : Pt} : p ∈ dryI q P reach X Y Z ↔ (p.x ∈ X ∧ p.y ∈ Y ∧ p.z ∈ Z) ∧ isDry q P reach p = true := by
  unfold dryI isDry
  simp only [List.mem_flatMap, List.mem_filterMap]
  constructor
  · rintro ⟨x, hx, y, hy, z, hz, h⟩
    split at h
    · rename_i hd
      cases h
      exact ⟨⟨hx, hy, hz⟩, hd⟩
    · cases h
  · rintro ⟨⟨hx, hy, hz⟩, hd⟩
    exact ⟨p.x, hx, p.y, hy, p.z, hz, by rw [if_pos hd]⟩
theorem inReach_more {r r' : Int} (h : r ≤ r') {p q : Pt} (hr : inReach r p q = true) : inReach r' p q = true := by
  unfold inReach at *
  simp only [Bool.and_eq_true, decide_eq_true_eq] at *
  omega
theorem reached_more {P : List Pt} {r r' : Int} (h : r ≤ r') {p : Pt} (hr : reachedB P r p = true) : reachedB P r' p = true := by
  unfold reachedB at *
  rw [List.any_eq_true] at *
  obtain ⟨x, hx, h1⟩ := hr
  exact ⟨x, hx, inReach_more h h1⟩
theorem dry_more {q : Mb} {P : List Pt} {r r' : Int} (h : r ≤ r') {X Y Z : List Int} {p : Pt} (hp : p ∈ dryI q P r' X Y Z) : p ∈ dryI q P r X Y Z := by
  rw [dry_mem] at *
  refine ⟨hp.1, ?_⟩
  have h2 := hp.2
  unfold isDry at *
  rw [Bool.and_eq_true, Bool.not_eq_true'] at *
  refine ⟨?_, h2.2⟩
  cases hc : reachedB P r p
  · rfl
  · rw [reached_more h hc] at h2; exact absurd h2.1 (by decide)
theorem reached_fewer {q : Mb} {R R' : List Rc} (hs : ∀ r ∈ R', r ∈ R) {X Y Z : List Int} (hZ : Z.Pairwise (· < ·)) {reach : Int} {p : Pt} (h : reachedB (placesI q R X Y Z) reach p = true) : reachedB (placesI q R' X Y Z) reach p = true := by
  unfold reachedB at *
  rw [List.any_eq_true] at *
  obtain ⟨s, hm, h1⟩ := h
  obtain ⟨x, hx, y, hy, hl⟩ := places_mem.1 hm
  obtain ⟨k, hk, rfl, hf, -⟩ := lowest_mem.1 hl
  have hf' := free_fewer hf hs
  have hsome : (Z.find? (fun z => freeR q R' ⟨x, y, z⟩)).isSome = true := by
    rw [List.find?_isSome]
    exact ⟨Z[k], List.getElem_mem hk, hf'⟩
  obtain ⟨z', e⟩ := Option.isSome_iff_exists.1 hsome
  obtain ⟨h2, i, hi, rfl, h3⟩ := List.find?_eq_some_iff_getElem.1 e
  have hik : i ≤ k := by
    by_cases hki : k < i
    · have := h3 k hki
      rw [hf'] at this
      exact absurd this (by decide)
    · omega
  have hz : Z[i] ≤ Z[k] := by
    by_cases hne : i = k
    · subst hne; exact Int.le_refl _
    · exact Int.le_of_lt (List.pairwise_iff_getElem.1 hZ i k hi hk (by omega))
  refine ⟨⟨x, y, Z[i]⟩, places_mem.2 ⟨x, hx, y, hy, ?_⟩, ?_⟩
  · unfold lowest; rw [e]; simp
  · unfold inReach at *
    simp only [Bool.and_eq_true, decide_eq_true_eq] at *
    omega
theorem dry_fewer {q : Mb} {R R' : List Rc} (hs : ∀ r ∈ R', r ∈ R) {reach : Int} {X Y Z : List Int} (hZ : Z.Pairwise (· < ·)) {p : Pt} (hp : p ∈ dryI q (placesI q R' X Y Z) reach X Y Z) : p ∈ dryI q (placesI q R X Y Z) reach X Y Z := by
  rw [dry_mem] at *
  refine ⟨hp.1, ?_⟩
  have h2 := hp.2
  unfold isDry at *
  rw [Bool.and_eq_true, Bool.not_eq_true'] at *
  refine ⟨?_, h2.2⟩
  cases hc : reachedB (placesI q R X Y Z) reach p
  · rfl
  · rw [reached_fewer hs hZ hc] at h2; exact absurd h2.1 (by decide)

end Go.Proofs.YtmoechhfjmemaaaGreat

namespace Go.Proofs.YtmoechhfjmemaaaGreat
open Go.RowKit
set_option maxRecDepth 20000

def RetPtO (w : World) (l : List Pt) (e : Ending) (W : World) : Prop := ∃ v, e = .returned v ∧ W.ownsRow w.heap.size 30 3 v l.length (ptCells l) ∧ ∃ x, W = ext w x

set_option maxRecDepth 100000 in
set_option maxHeartbeats 8000000 in
theorem places_c (q : Mb) (R : List Rc) (v : Value) (X Y Z : List Int) (v0 v1 v2 : Value) (hk : ∀ x ∈ X, ∀ y ∈ Y, ∀ z ∈ Z, TipOk q ⟨x, y, z⟩) (hR : ∀ r ∈ R, RodOk r) (hn : X.length * Y.length ≤ 5000) (w : World) (hq : MbAt w q) (hv : Rcs w v R) (h0 : Ints w v0 X) (h1 : Ints w v1 Y) (h2 : Ints w v2 Z) :
    Calls Tryz.prog 77 #[(.agg #[.string q.name, q.u, q.t, .int .i64 q.cover, .int .i64 q.agg, .int .i64 q.poker]), v, .agg #[v0, v1, v2]] w (RetPtO w (placesI q R X Y Z)) := by
  have HQ := Lib.hid hq
  have HV := Lib.hid hv
  have HK := Lib.hid hk
  have HN := Lib.hid hn
  have HF := Lib.hid (fun p hk w hq hv => pfree_v q R p v _ rfl hk hR w hq hv)
  obtain ⟨bx, ox, cx, rfl, x1, x2, x3⟩ := h0
  obtain ⟨bY, oY, cY, rfl, y1, y2, y3⟩ := h1
  obtain ⟨bz, oz, cz, rfl, z1, z2, z3⟩ := h2
  have HX := Lib.hid x3
  have HY := Lib.hid y3
  have HZ := Lib.hid z3
  clear hq hv hk hR hn x3 y3 z3
  go_enter Tryz.func77, Tryz.ntmps77
  go_wp2_with fail
  refine world_mask (fun W => Below w.heap.size w W ∧ MCells22 W w.heap.size q.name q.u q.t q.cover q.agg q.poker ∧ Blk W (w.heap.size + 1) #[.slice (some ⟨bx, ox, none⟩) X.length cx, .slice (some ⟨bY, oY, none⟩) Y.length cY, .slice (some ⟨bz, oz, none⟩) Z.length cz] 107) _ ⟨by (repeat (first | exact grow_refl _ | refine grow_ext _ ?_ | refine grow_alloc _ ?_ | refine grow_drew ?_)), by simp [MCells22, go_sem], Blk.new' (by simp) _ _⟩ ?_
  rintro W0 ⟨hb, hm, hg⟩
  have HB := Lib.hid hb
  have HM := Lib.hid hm
  have HG := Lib.hid hg
  have HX := Lib.hid (show ∀ i (h : i < X.length) (x : World), (ext W0 x).cell? ⟨bx, ox + i, none⟩ = some (.int .i64 X[i]) from fun i h x => by obtain ⟨y, rfl⟩ := ext_of hb; exact cell_ext_some (cell_ext_some (HX.out i h) y) x)
  have HY := Lib.hid (show ∀ i (h : i < Y.length) (x : World), (ext W0 x).cell? ⟨bY, oY + i, none⟩ = some (.int .i64 Y[i]) from fun i h x => by obtain ⟨y, rfl⟩ := ext_of hb; exact cell_ext_some (cell_ext_some (HY.out i h) y) x)
  have HZ := Lib.hid (show ∀ i (h : i < Z.length) (x : World), (ext W0 x).cell? ⟨bz, oz + i, none⟩ = some (.int .i64 Z[i]) from fun i h x => by obtain ⟨y, rfl⟩ := ext_of hb; exact cell_ext_some (cell_ext_some (HZ.out i h) y) x)
  have HBX := Lib.hid (show ∀ x : World, Below w.heap.size w (ext W0 x) from fun x => hb.trans ((below_ext W0 x).mono hb.size))
  clear hb hm hg
  go_loopw [7, 18] (fun o i wr => ∃ k : Nat, k ≤ X.length ∧ i = .int .i64 k ∧ (∃ y, wr = ext W0 y) ∧ wr.ownsRow W0.heap.size 30 3 o (placesI q R (X.take k) Y Z).length (ptCells (placesI q R (X.take k) Y Z))) (fun _ i _ => X.length - (intOf i).toNat)
  case atStart => exact ⟨0, by omega, rfl, ext_of (Below.refl _ _), World.ownsRow_nil _ _ _ _⟩
  case round =>
    obtain ⟨i, hi, rfl, ⟨y, rfl⟩, hown⟩ := hrel
    have HO := Lib.hid hown
    obtain ⟨av, cv, rfl, hv1, hv2, -⟩ := own_shape hown
    have hv3 : cv ≤ 9223372036854775807 := hv2
    clear hown
    by_cases hlt : i < X.length
    · have q1 : (0 : Int) ≤ (i : Int) := by omega
      have q2 : (i : Int) < (X.length : Int) := by omega
      have c0 := cell_ext_some ((HG.out.cell 0).trans rfl) y
      have c1 := cell_ext_some ((HG.out.cell 1).trans rfl) y
      have e0 := HX.out i hlt y
      have HPT := Lib.hid (places_take q R X Y Z hlt)
      have HKI := Lib.hid (HK.out X[i] (List.getElem_mem hlt))
      have HFW := Lib.hid (fun j (hj : j ≤ Y.length) => row_few (q := q) (R := R) (Z := Z) (x := X[i]) HN.out hlt hj)
      generalize X[i] = xx at *
      go_wp2_with fail
      go_loopw [7, 25] (fun o i' wr => ∃ j : Nat, j ≤ Y.length ∧ i' = .int .i64 j ∧ (∃ y, wr = ext W0 y) ∧ wr.ownsRow W0.heap.size 30 3 o (placesI q R (X.take i) Y Z ++ rowI q R xx (Y.take j) Z).length (ptCells (placesI q R (X.take i) Y Z ++ rowI q R xx (Y.take j) Z))) (fun _ i' _ => Y.length - (intOf i').toNat)
      case atStart => exact ⟨0, by omega, rfl, ⟨y, rfl⟩, by simpa [rowI] using HO.out⟩
      case round =>
        clear c0 c1 e0 hv1 hv2 hv3 HO
        obtain ⟨j, hj, rfl, ⟨y, rfl⟩, hown⟩ := hrel
        have HO := Lib.hid hown
        obtain ⟨av, cv, rfl, hv1, hv2, -⟩ := own_shape hown
        have hv3 : cv ≤ 9223372036854775807 := hv2
        have hfew := HFW.out j hj
        clear hown
        by_cases hltj : j < Y.length
        · have q3 : (0 : Int) ≤ (j : Int) := by omega
          have q4 : (j : Int) < (Y.length : Int) := by omega
          have c1 := cell_ext_some ((HG.out.cell 1).trans rfl) y
          have c2 := cell_ext_some ((HG.out.cell 2).trans rfl) y
          have e1 := HY.out j hltj y
          have HRT := Lib.hid (row_take q R xx Y Z hltj)
          have HKJ := Lib.hid (HKI.out Y[j] (List.getElem_mem hltj))
          generalize Y[j] = yy at *
          obtain ⟨L, hL⟩ : ∃ L, placesI q R (X.take i) Y Z ++ rowI q R xx (Y.take j) Z = L := ⟨_, rfl⟩
          rw [hL] at HO hv1 hfew
          rw [hL]
          have HL := Lib.hid hL
          clear hL
          go_wp2_with fail
          go_loopw [7, 32] (fun o i' wr => ∃ k : Nat, k ≤ Z.length ∧ i' = .int .i64 k ∧ o = .slice av L.length cv ∧ (∃ y, wr = ext W0 y) ∧ wr.ownsRow W0.heap.size 30 3 (.slice av L.length cv) L.length (ptCells L) ∧ ∀ z ∈ Z.take k, freeR q R ⟨xx, yy, z⟩ = false) (fun _ i' _ => Z.length - (intOf i').toNat)
          case atStart => exact ⟨0, by omega, rfl, rfl, ⟨y, rfl⟩, HO.out, fun z hz => by simp at hz⟩
          case round =>
            clear c1 c2 e1 HO
            obtain ⟨k, hk, rfl, rfl, ⟨y, rfl⟩, hown, hno⟩ := hrel
            have HO := Lib.hid hown
            have HNO := Lib.hid hno
            clear hown hno
            by_cases hltk : k < Z.length
            · have q5 : (0 : Int) ≤ (k : Int) := by omega
              have q6 : (k : Int) < (Z.length : Int) := by omega
              have c2 := cell_ext_some ((HG.out.cell 2).trans rfl) y
              have e2 := HZ.out k hltk y
              obtain ⟨m0, m1, m2, m3, m4, m5⟩ := HM.out.ext y
              have HKK := Lib.hid (HKJ.out Z[k] (List.getElem_mem hltk))
              have HMI := Lib.hid (fun h => miss_succ (q := q) (R := R) (x := xx) (y := yy) hltk HNO.out h)
              have HHI := Lib.hid (fun h => lowest_hit (q := q) (R := R) (x := xx) (y := yy) hltk HNO.out h)
              generalize Z[k] = zz at *
              have HFR := Lib.hid (HF.out ⟨xx, yy, zz⟩ HKK.out)
              simp only at HFR
              cases hfr : freeR q R ⟨xx, yy, zz⟩
              · have HMS := Lib.hid (HMI.out hfr)
                rw [hfr] at HFR
                clear hfr HMI HHI
                go_wp2_with fail
                go_at_call 54; refine (HFR.out _ (HQ.out.below (grow_alloc _ (HBX.out y))) (HV.out.below (grow_alloc _ (HBX.out y)))).mono ?_; rintro e w' ⟨rfl, y1, rfl⟩
                go_wp2
                go_roundw
                case rel => exact ⟨k + 1, by omega, by go_num, rfl, ext_of (by (repeat (first | exact grow_refl _ | refine grow_ext _ ?_ | refine grow_alloc _ ?_ | refine grow_drew ?_))), own_ext (HO.out.alloc _) _, HMS.out⟩
                case measure => simp [intOf]; omega
              · have HMS := Lib.hid (HHI.out hfr)
                rw [hfr] at HFR
                clear hfr HMI HHI
                go_wp2_with fail
                go_at_call 54; refine (HFR.out _ (HQ.out.below (grow_alloc _ (HBX.out y))) (HV.out.below (grow_alloc _ (HBX.out y)))).mono ?_; rintro e w' ⟨rfl, y1, rfl⟩
                go_wp2_with (at_builtin; refine app_own_b rfl _ _ 46 rfl 30 (.agg #[.int .i64 0, .int .i64 0, .int .i64 0]) 3 24 Tryz.underlying46 info_pt rfl (by decide) (W0.heap.size) (.slice av L.length cv) (L.length) (ptCells L) _ rfl ((own_ext (HO.out.alloc _) _).alloc _) _ 1 1 (ptCells [⟨xx, yy, zz⟩]) rfl rfl (cells_new ?_ _ _ _ rfl) (ptCells_one _) (by omega) (by decide) ?_ ?_; (first | rfl | simp [size_ext]); (simp only [World.size_alloc, size_ext]; omega); intro v' w1 hown' hgrow; have HO2 := Lib.hid hown'; obtain ⟨a', c', rfl, _, hc2, -⟩ := own_shape hown'; have hc3 : c' ≤ 9223372036854775807 := hc2; have HGR := Lib.hid hgrow; clear hown' hgrow hc2)
                go_roundw
                case rel =>
                  refine ⟨j + 1, by omega, by go_num, ?_, ?_⟩
                  · exact ext_grown2 (grow_alloc _ (grow_ext _ (grow_alloc _ (below_ext W0 y)))) HGR.out (fun q e => (HO.out.lt q e).1)
                  · rw [HRT.out, HMS.out, ← List.append_assoc, HL.out]
                    exact own_pts HO2.out rfl
                case measure => simp [intOf]; omega
            · obtain rfl : k = Z.length := by omega
              have HMS := Lib.hid (lowest_miss (q := q) (R := R) (x := xx) (y := yy) (Z := Z) (by have := HNO.out; rwa [List.take_length] at this))
              go_wp2
              go_roundw
              case rel => exact ⟨j + 1, by omega, by go_num, ⟨_, rfl⟩, by rw [HRT.out, HMS.out, List.append_nil, HL.out]; exact HO.out⟩
              case measure => simp [intOf]; omega
        · obtain rfl : j = Y.length := by omega
          rw [List.take_length] at HO hv1 hfew
          rw [List.take_length]
          go_wp2
          go_roundw
          case rel => exact ⟨i + 1, by omega, by go_num, ⟨_, rfl⟩, by rw [HPT.out]; exact HO.out⟩
          case measure => simp [intOf]; omega
    · obtain rfl : i = X.length := by omega
      rw [List.take_length] at HO hv1
      rw [List.take_length]
      go_wp2
      go_ret
      exact ⟨_, rfl, own_mono HO.out HB.out.size, ext_of (HBX.out y)⟩

end Go.Proofs.YtmoechhfjmemaaaGreat

namespace Go.Proofs.YtmoechhfjmemaaaGreat
open Go.RowKit
set_option maxRecDepth 20000

theorem grid_step {lo st A : Int} {j : Nat} (h : lo + (j : Int) * st = A) : A + st = lo + ((j + 1 : Nat) : Int) * st := by
  subst h; push_cast; rw [Int.add_mul]; omega
theorem grid_lo {lo st A : Int} {j : Nat} (hs : 1 ≤ st) (h : lo + (j : Int) * st = A) : lo ≤ A := by
  have : 0 ≤ (j : Int) * st := Int.mul_nonneg (by omega) (by omega)
  omega
theorem tip_grid {q : Mb} {st : Int} (h : okMb q = true) (h1 : 1 ≤ st) : ∀ x ∈ gridL (hullX q.l).lx (hullX q.l).hx st, ∀ y ∈ gridL (hullX q.l).ly (hullX q.l).hy st, ∀ z ∈ gridL (hullX q.l).lz (hullX q.l).hz st, TipOk q ⟨x, y, z⟩ ∧ nearB ⟨x, y, z⟩ 1048576 = true ∧ z ≤ topI q := by
  intro x hx y hy z hz
  obtain ⟨v1, v2, v3, v4, v5, v6, v7, v8, v9⟩ := valid_iff.1 (hull_in (okMb_facts h).1)
  have bx := grid_bound v2 h1 hx
  have bY := grid_bound v5 h1 hy
  have bz := grid_bound v8 h1 hz
  have hn : nearB ⟨x, y, z⟩ 1048576 = true := near_iff.2 ⟨⟨by simp only; omega, by simp only; omega⟩, ⟨by simp only; omega, by simp only; omega⟩, ⟨by simp only; omega, by simp only; omega⟩⟩
  exact ⟨tip_ok h hn, hn, bz.2⟩

theorem nat_mul {a b : Int} (ha : 0 ≤ a) (hb : 0 ≤ b) : ((a.toNat * b.toNat : Nat) : Int) = a * b := by
  rw [Int.natCast_mul, Int.toNat_of_nonneg ha, Int.toNat_of_nonneg hb]
theorem grid_few {q : Mb} {st : Int} (hs : solidB q.l q.m = true) (h1 : 1 ≤ st) (h : largeB q st = false) :
    (gridL (hullX q.l).lx (hullX q.l).hx st).length * (gridL (hullX q.l).ly (hullX q.l).hy st).length ≤ 5000 ∧ (gridL (hullX q.l).lx (hullX q.l).hx st).length * (gridL (hullX q.l).ly (hullX q.l).hy st).length * (gridL (hullX q.l).lz (hullX q.l).hz st).length ≤ 5000 := by
  obtain ⟨v1, v2, v3, v4, v5, v6, v7, v8, v9⟩ := valid_iff.1 (hull_in hs)
  have ex := cnt_in v2 h1
  have ey := cnt_in v5 h1
  have ez := cnt_in v8 h1
  unfold largeB at h
  simp only [Bool.or_eq_false_iff, decide_eq_false_iff_not] at h
  obtain ⟨-, h2, h3⟩ := h
  rw [gridL_len, gridL_len, gridL_len]
  have e1 := nat_mul (show 0 ≤ cntI (hullX q.l).lx (hullX q.l).hx st by omega) (show 0 ≤ cntI (hullX q.l).ly (hullX q.l).hy st by omega)
  have p1 : 0 ≤ cntI (hullX q.l).lx (hullX q.l).hx st * cntI (hullX q.l).ly (hullX q.l).hy st := Int.mul_nonneg (by omega) (by omega)
  have e2 := nat_mul p1 (show 0 ≤ cntI (hullX q.l).lz (hullX q.l).hz st by omega)
  have e3 : (cntI (hullX q.l).lx (hullX q.l).hx st * cntI (hullX q.l).ly (hullX q.l).hy st).toNat = (cntI (hullX q.l).lx (hullX q.l).hx st).toNat * (cntI (hullX q.l).ly (hullX q.l).hy st).toNat := by omega
  rw [e3] at e2
  omega

set_option maxRecDepth 100000 in
set_option maxHeartbeats 8000000 in
theorem rPlaces_c (q : Mb) (l : List Br) (rs : List Rn) (v u : Value) (st : Int) (h1 : 1 ≤ st) (h2 : st ≤ 1048576) (hm : okMb q = true) (hv : laidB l rs = true) (hlg : largeB q st = false) (w : World) (hq : MbAt w q) (hl : Bars w v l) (hr : Runs w u rs) :
    Calls Tryz.prog 36 #[(.agg #[.string q.name, q.u, q.t, .int .i64 q.cover, .int .i64 q.agg, .int .i64 q.poker]), v, u, .int .i64 st] w (RetPtO w (placesI q (rodsI l rs) (gridL (hullX q.l).lx (hullX q.l).hx st) (gridL (hullX q.l).ly (hullX q.l).hy st) (gridL (hullX q.l).lz (hullX q.l).hz st))) := by
  have HQ := Lib.hid hq
  have HL := Lib.hid hl
  have HR := Lib.hid hr
  have hs := (okMb_facts hm).1
  have HH := Lib.hid (fun w hl => refSolHull_c q.l q.u q.t (solid_some hs) w hl)
  have HF := Lib.hid (fun p hk w hq hl hr => rFree_v q l rs v u p _ rfl hk hv w hq hl hr)
  have HK := Lib.hid (fun x hx y hy z hz => (tip_grid (st := st) hm h1 x hx y hy z hz).1)
  have hval := valid_iff.1 (hull_in hs)
  have hfew := (grid_few hs h1 hlg).1
  generalize hullX q.l = H at *
  obtain ⟨v1, v2, v3, v4, v5, v6, v7, v8, v9⟩ := hval
  have HN := Lib.hid hfew
  have GX := Lib.hid (fun i h => gridL_get H.lx H.hx st i h)
  have GY := Lib.hid (fun i h => gridL_get H.ly H.hy st i h)
  have GZ := Lib.hid (fun i h => gridL_get H.lz H.hz st i h)
  have LX := Lib.hid (show ∀ i : Nat, H.lx + (i : Int) * st ≤ H.hx ↔ i < (gridL H.lx H.hx st).length from fun i => by rw [cnt_last v2 h1 i (by omega), gridL_len]; omega)
  have LY := Lib.hid (show ∀ i : Nat, H.ly + (i : Int) * st ≤ H.hy ↔ i < (gridL H.ly H.hy st).length from fun i => by rw [cnt_last v5 h1 i (by omega), gridL_len]; omega)
  have LZ := Lib.hid (show ∀ i : Nat, H.lz + (i : Int) * st ≤ H.hz ↔ i < (gridL H.lz H.hz st).length from fun i => by rw [cnt_last v8 h1 i (by omega), gridL_len]; omega)
  generalize rodsI l rs = R at *
  generalize gridL H.lx H.hx st = X at *
  generalize gridL H.ly H.hy st = Y at *
  generalize gridL H.lz H.hz st = Z at *
  obtain ⟨lx, ly, lz, hx, hy, hz⟩ := H
  simp only at *
  clear hq hl hr hs hlg hfew hm hv
  go_enter Tryz.func36, Tryz.ntmps36
  go_wp2_with fail
  go_at_call 58; refine (HH.out _ (HQ.out.boxes.below (by (repeat (first | exact grow_refl _ | refine grow_ext _ ?_ | refine grow_alloc _ ?_ | refine grow_drew ?_))))).mono ?_; rintro e w' ⟨rfl, x1, rfl⟩
  go_wp2_with fail
  refine world_mask (fun W => Below w.heap.size w W ∧ MCells22 W w.heap.size q.name q.u q.t q.cover q.agg q.poker ∧ BoxAt W (w.heap.size + 1 + x1.heap.size) 0 ⟨lx, ly, lz, hx, hy, hz⟩) _ ⟨by (repeat (first | exact grow_refl _ | refine grow_ext _ ?_ | refine grow_alloc _ ?_ | refine grow_drew ?_)), by simp [MCells22, go_sem], by simp [BoxAt, go_sem]⟩ ?_
  rintro W0 ⟨hb, hm, hg⟩
  have HB := Lib.hid hb
  have HM := Lib.hid hm
  have HG := Lib.hid hg
  have HBX := Lib.hid (show ∀ x : World, Below w.heap.size w (ext W0 x) from fun x => hb.trans ((below_ext W0 x).mono hb.size))
  obtain ⟨c0, c1, c2, c3, c4, c5⟩ := hg
  simp only [Nat.zero_add] at c1 c2 c3 c4 c5
  clear hb hm
  go_wp2_with fail
  clear c0 c1 c2 c3 c4 c5
  go_loopw [10, 11] (fun o a wr => ∃ k : Nat, k ≤ X.length ∧ a = .int .i64 (lx + (k : Int) * st) ∧ (∃ y, wr = ext W0 y) ∧ wr.ownsRow W0.heap.size 30 3 o (placesI q R (X.take k) Y Z).length (ptCells (placesI q R (X.take k) Y Z))) (fun _ a _ => (hx + 1 - intOf a).toNat)
  case atStart => exact ⟨0, by omega, by simp, ext_of (Below.refl _ _), World.ownsRow_nil _ _ _ _⟩
  case round =>
    obtain ⟨i, hi, rfl, ⟨y, rfl⟩, hown⟩ := hrel
    have HO := Lib.hid hown
    obtain ⟨av, cv, rfl, hv1, hv2, -⟩ := own_shape hown
    have hv3 : cv ≤ 9223372036854775807 := hv2
    obtain ⟨c0, c1, c2, c3, c4, c5⟩ := HG.out.ext y
    simp only [Nat.zero_add] at c1 c2 c3 c4 c5
    have hor := LX.out i
    clear hown
    by_cases hlt : i < X.length
    · have hor1 := hor.2 hlt
      have HPT := Lib.hid (places_take q R X Y Z hlt)
      have HKI := Lib.hid (HK.out X[i] (List.getElem_mem hlt))
      have HFW := Lib.hid (fun j (hj : j ≤ Y.length) => row_few (q := q) (R := R) (Z := Z) (x := X[i]) HN.out hlt hj)
      have hxi := GX.out i hlt
      obtain ⟨A, hA⟩ : ∃ A, lx + (i : Int) * st = A := ⟨_, rfl⟩
      have HSA := Lib.hid (grid_step hA)
      have hA0 := grid_lo h1 hA
      rw [hA] at hor1 hxi
      rw [hA]
      rw [hxi] at HPT HKI HFW
      clear hor hxi hA
      go_wp2_with fail
      clear c0 c1 c2 c3 c4 c5
      go_loopw [10, 12] (fun o a wr => ∃ j : Nat, j ≤ Y.length ∧ a = .int .i64 (ly + (j : Int) * st) ∧ (∃ y, wr = ext W0 y) ∧ wr.ownsRow W0.heap.size 30 3 o (placesI q R (X.take i) Y Z ++ rowI q R A (Y.take j) Z).length (ptCells (placesI q R (X.take i) Y Z ++ rowI q R A (Y.take j) Z))) (fun _ a _ => (hy + 1 - intOf a).toNat)
      case atStart => exact ⟨0, by omega, by simp, ⟨y, rfl⟩, by simpa [rowI] using HO.out⟩
      case round =>
        clear hv1 hv2 hv3 HO
        obtain ⟨j, hj, rfl, ⟨y, rfl⟩, hown⟩ := hrel
        have HO := Lib.hid hown
        obtain ⟨av, cv, rfl, hv1, hv2, -⟩ := own_shape hown
        have hv3 : cv ≤ 9223372036854775807 := hv2
        have hfew := HFW.out j hj
        obtain ⟨c0, c1, c2, c3, c4, c5⟩ := HG.out.ext y
        simp only [Nat.zero_add] at c1 c2 c3 c4 c5
        have hor := LY.out j
        clear hown
        by_cases hltj : j < Y.length
        · have hor2 := hor.2 hltj
          have HRT := Lib.hid (row_take q R A Y Z hltj)
          have HKJ := Lib.hid (HKI.out Y[j] (List.getElem_mem hltj))
          have hxi := GY.out j hltj
          obtain ⟨B, hBe⟩ : ∃ B, ly + (j : Int) * st = B := ⟨_, rfl⟩
          have HSB := Lib.hid (grid_step hBe)
          have hB0 := grid_lo h1 hBe
          rw [hBe] at hor2 hxi
          rw [hBe]
          rw [hxi] at HRT HKJ
          clear hor hxi hBe
          obtain ⟨L, hL⟩ : ∃ L, placesI q R (X.take i) Y Z ++ rowI q R A (Y.take j) Z = L := ⟨_, rfl⟩
          rw [hL] at HO hv1 hfew
          rw [hL]
          have HLL := Lib.hid hL
          clear hL
          go_wp2_with fail
          clear c0 c1 c2 c3 c4 c5
          go_loopw [10, 13] (fun o a wr => ∃ k : Nat, k ≤ Z.length ∧ a = .int .i64 (lz + (k : Int) * st) ∧ o = .slice av L.length cv ∧ (∃ y, wr = ext W0 y) ∧ wr.ownsRow W0.heap.size 30 3 (.slice av L.length cv) L.length (ptCells L) ∧ ∀ z ∈ Z.take k, freeR q R ⟨A, B, z⟩ = false) (fun _ a _ => (hz + 1 - intOf a).toNat)
          case atStart => exact ⟨0, by omega, by simp, rfl, ⟨y, rfl⟩, HO.out, fun z hz => by simp at hz⟩
          case round =>
            clear HO
            obtain ⟨k, hk, rfl, rfl, ⟨y, rfl⟩, hown, hno⟩ := hrel
            have HO := Lib.hid hown
            have HNO := Lib.hid hno
            obtain ⟨c0, c1, c2, c3, c4, c5⟩ := HG.out.ext y
            simp only [Nat.zero_add] at c1 c2 c3 c4 c5
            have hor := LZ.out k
            clear hown hno
            by_cases hltk : k < Z.length
            · have hor3 := hor.2 hltk
              obtain ⟨m0, m1, m2, m3, m4, m5⟩ := HM.out.ext y
              have HKK := Lib.hid (HKJ.out Z[k] (List.getElem_mem hltk))
              have HMI := Lib.hid (fun h => miss_succ (q := q) (R := R) (x := A) (y := B) hltk HNO.out h)
              have HHI := Lib.hid (fun h => lowest_hit (q := q) (R := R) (x := A) (y := B) hltk HNO.out h)
              have hxi := GZ.out k hltk
              obtain ⟨C, hCe⟩ : ∃ C, lz + (k : Int) * st = C := ⟨_, rfl⟩
              have HSC := Lib.hid (grid_step hCe)
              have hC0 := grid_lo h1 hCe
              rw [hCe] at hor3 hxi
              rw [hCe]
              rw [hxi] at HKK HMI HHI
              clear hor hxi hCe
              have HFR := Lib.hid (HF.out ⟨A, B, C⟩ HKK.out)
              simp only at HFR
              cases hfr : freeR q R ⟨A, B, C⟩
              · have HMS := Lib.hid (HMI.out hfr)
                rw [hfr] at HFR
                clear hfr HMI HHI
                go_wp2_with fail
                go_at_call 20; refine (HFR.out _ (HQ.out.below (HBX.out y)) (HL.out.below (HBX.out y)) (HR.out.below (HBX.out y))).mono ?_; rintro e w' ⟨rfl, y1, rfl⟩
                go_wp2
                go_roundw
                case rel => exact ⟨k + 1, by omega, by rw [HSC.out], rfl, ext_of (by (repeat (first | exact grow_refl _ | refine grow_ext _ ?_ | refine grow_alloc _ ?_ | refine grow_drew ?_))), own_ext HO.out _, HMS.out⟩
                case measure => simp [intOf]; omega
              · have HMS := Lib.hid (HHI.out hfr)
                rw [hfr] at HFR
                clear hfr HMI HHI
                go_wp2_with fail
                go_at_call 20; refine (HFR.out _ (HQ.out.below (HBX.out y)) (HL.out.below (HBX.out y)) (HR.out.below (HBX.out y))).mono ?_; rintro e w' ⟨rfl, y1, rfl⟩
                go_wp2_with (at_builtin; refine app_own_b rfl _ _ 46 rfl 30 (.agg #[.int .i64 0, .int .i64 0, .int .i64 0]) 3 24 Tryz.underlying46 info_pt rfl (by decide) (W0.heap.size) (.slice av L.length cv) (L.length) (ptCells L) _ rfl ((own_ext HO.out _).alloc _) _ 1 1 (ptCells [⟨A, B, C⟩]) rfl rfl (cells_new ?_ _ _ _ rfl) (ptCells_one _) (by omega) (by decide) ?_ ?_; (first | rfl | simp [size_ext]); (simp only [World.size_alloc, size_ext]; omega); intro v' w1 hown' hgrow; have HO2 := Lib.hid hown'; obtain ⟨a', c', rfl, _, hc2, -⟩ := own_shape hown'; have hc3 : c' ≤ 9223372036854775807 := hc2; have HGR := Lib.hid hgrow; clear hown' hgrow hc2)
                go_roundw
                case rel =>
                  refine ⟨j + 1, by omega, by rw [HSB.out], ?_, ?_⟩
                  · exact ext_grown2 (grow_alloc _ (grow_ext _ (below_ext W0 y))) HGR.out (fun q e => (HO.out.lt q e).1)
                  · rw [HRT.out, HMS.out, ← List.append_assoc, HLL.out]
                    exact own_pts HO2.out rfl
                case measure => simp [intOf]; omega
            · obtain rfl : k = Z.length := by omega
              have hor3 : ¬ (lz + (Z.length : Int) * st ≤ hz) := fun h => hltk (hor.1 h)
              have HMS := Lib.hid (lowest_miss (q := q) (R := R) (x := A) (y := B) (Z := Z) (by have := HNO.out; rwa [List.take_length] at this))
              obtain ⟨C, hCe⟩ : ∃ C, lz + (Z.length : Int) * st = C := ⟨_, rfl⟩
              rw [hCe] at hor3
              rw [hCe]
              clear hor hCe hltk
              go_wp2
              go_roundw
              case rel => exact ⟨j + 1, by omega, by rw [HSB.out], ⟨_, rfl⟩, by rw [HRT.out, HMS.out, List.append_nil, HLL.out]; exact HO.out⟩
              case measure => simp [intOf]; omega
        · obtain rfl : j = Y.length := by omega
          have hor2 : ¬ (ly + (Y.length : Int) * st ≤ hy) := fun h => hltj (hor.1 h)
          obtain ⟨B, hBe⟩ : ∃ B, ly + (Y.length : Int) * st = B := ⟨_, rfl⟩
          rw [hBe] at hor2
          rw [hBe]
          clear hor hBe hltj
          rw [List.take_length] at HO hv1 hfew
          rw [List.take_length]
          go_wp2
          go_roundw
          case rel => exact ⟨i + 1, by omega, by rw [HSA.out], ⟨_, rfl⟩, by rw [HPT.out]; exact HO.out⟩
          case measure => simp [intOf]; omega
    · obtain rfl : i = X.length := by omega
      have hor1 : ¬ (lx + (X.length : Int) * st ≤ hx) := fun h => hlt (hor.1 h)
      obtain ⟨A, hA⟩ : ∃ A, lx + (X.length : Int) * st = A := ⟨_, rfl⟩
      rw [hA] at hor1
      rw [hA]
      clear hor hA hlt
      rw [List.take_length] at HO hv1
      rw [List.take_length]
      go_wp2
      go_ret
      exact ⟨_, rfl, own_mono HO.out HB.out.size, ext_of (HBX.out y)⟩

end Go.Proofs.YtmoechhfjmemaaaGreat

namespace Go.Proofs.YtmoechhfjmemaaaGreat
open Go.RowKit
set_option maxRecDepth 20000

theorem Ints.below {w w' : World} {v : Value} {l : List Int} (h : Ints w v l) (hb : Below w.heap.size w w') : Ints w' v l := by
  obtain ⟨x, rfl⟩ := ext_of hb
  exact h.ext x
/-- The places of a grid of a member. -/
def gridP (q : Mb) (R : List Rc) (st : Int) : List Pt := placesI q R (gridL (hullX q.l).lx (hullX q.l).hx st) (gridL (hullX q.l).ly (hullX q.l).hy st) (gridL (hullX q.l).lz (hullX q.l).hz st)
def stepB (st : Int) : Bool := decide (1 ≤ st ∧ st ≤ 1048576)
theorem stepB_iff {st : Int} : stepB st = true ↔ 1 ≤ st ∧ st ≤ 1048576 := by unfold stepB; exact decide_eq_true_iff
def placesE (q : Mb) (l : List Br) (rs : List Rn) (st : Int) : List Pt × Int :=
  if okMb q = true ∧ laidB l rs = true then (if stepB st = true then (if largeB q st = true then ([], 6) else (gridP q (rodsI l rs) st, 0)) else ([], 2)) else ([], 1)
/-- Points of the call's own, and an error number. -/
def RetPtsE (w : World) (L : List Pt) (err : Int) (e : Ending) (W : World) : Prop :=
  ∃ v, e = .returned (.tuple #[v, .int .i64 err]) ∧ W.ownsRow w.heap.size 30 3 v L.length (ptCells L) ∧ ∃ x, W = ext w x
theorem RetPtsE.open {w : World} {L : List Pt} {err : Int} {e : Ending} {W : World} (h : RetPtsE w L err e W) :
    ∃ a c, e = .returned (.tuple #[.slice a L.length c, .int .i64 err]) ∧ L.length ≤ c ∧ c ≤ 9223372036854775807 ∧ Pts W (.slice a L.length c) L ∧ ∃ x, W = ext w x := by
  obtain ⟨v, rfl, hown, x, rfl⟩ := h
  have hp := Pts.of_own hown
  obtain ⟨a, c, rfl, h1, h2, -⟩ := own_shape hown
  exact ⟨a, c, rfl, h1, h2, hp, x, rfl⟩

theorem givenP_no {q : Mb} {l : List Br} {rs : List Rn} (h : ¬ (okMb q = true ∧ laidB l rs = true)) : givenP q l rs = ([], 1) := by
  unfold givenP rodsE
  by_cases hm : okMb q = true
  · rw [if_pos hm, if_neg (fun hv => h ⟨hm, hv⟩)]
  · rw [if_neg hm]
theorem givenP_yes {q : Mb} {l : List Br} {rs : List Rn} (hm : okMb q = true) (hv : laidB l rs = true) : givenP q l rs = (rodsI l rs, 0) := by unfold givenP rodsE; rw [if_pos hm, if_pos hv]

set_option maxHeartbeats 2000000 in
theorem pPlaces_a (q : Mb) (l : List Br) (rs : List Rn) (v u : Value) (st : Int) (h : ¬ (okMb q = true ∧ laidB l rs = true)) (w : World) (hq : MbAt w q) (hl : Bars w v l) (hr : Runs w u rs) :
    Calls Tryz.prog 31 #[(.agg #[.string q.name, q.u, q.t, .int .i64 q.cover, .int .i64 q.agg, .int .i64 q.poker]), v, u, .int .i64 st] w (RetPtsE w [] 1) := by
  have HQ := Lib.hid hq
  have HL := Lib.hid hl
  have HR := Lib.hid hr
  have HG := Lib.hid (fun w hq hl hr => pgiven_c q l rs v u w hq hl hr)
  rw [givenP_no h] at HG
  clear hq hl hr h
  go_enter Tryz.func31, Tryz.ntmps31
  go_wp2_with fail
  go_at_call 53; refine (HG.out _ (HQ.out.below (by (repeat (first | exact grow_refl _ | refine grow_ext _ ?_ | refine grow_alloc _ ?_ | refine grow_drew ?_)))) (HL.out.below (by (repeat (first | exact grow_refl _ | refine grow_ext _ ?_ | refine grow_alloc _ ?_ | refine grow_drew ?_)))) (HR.out.below (by (repeat (first | exact grow_refl _ | refine grow_ext _ ?_ | refine grow_alloc _ ?_ | refine grow_drew ?_))))).mono ?_; rintro e w' ⟨v2, rfl, hown, x1, rfl⟩
  obtain ⟨a2, c2, rfl, -, -, -⟩ := own_shape hown
  clear hown
  go_wp2
  go_ret2
  exact ⟨_, rfl, World.ownsRow_nil _ _ _ _, ext_of (by (repeat (first | exact grow_refl _ | refine grow_ext _ ?_ | refine grow_alloc _ ?_ | refine grow_drew ?_)))⟩

set_option maxHeartbeats 2000000 in
theorem pPlaces_b (q : Mb) (l : List Br) (rs : List Rn) (v u : Value) (st : Int) (hm : okMb q = true) (hv : laidB l rs = true) (h : stepB st = false) (w : World) (hq : MbAt w q) (hl : Bars w v l) (hr : Runs w u rs) :
    Calls Tryz.prog 31 #[(.agg #[.string q.name, q.u, q.t, .int .i64 q.cover, .int .i64 q.agg, .int .i64 q.poker]), v, u, .int .i64 st] w (RetPtsE w [] 2) := by
  have HQ := Lib.hid hq
  have HL := Lib.hid hl
  have HR := Lib.hid hr
  have HG := Lib.hid (fun w hq hl hr => pgiven_c q l rs v u w hq hl hr)
  rw [givenP_yes hm hv] at HG
  simp only at HG
  generalize rodsI l rs = R at *
  have hst : ¬ (1 ≤ st ∧ st ≤ 1048576) := of_decide_eq_false h
  clear hq hl hr h hm hv
  by_cases h1 : st < 1
  · have d1 : decide (st < 1) = true := decide_eq_true h1
    clear hst h1
    go_enter Tryz.func31, Tryz.ntmps31
    go_wp2_with fail
    go_at_call 53; refine (HG.out _ (HQ.out.below (by (repeat (first | exact grow_refl _ | refine grow_ext _ ?_ | refine grow_alloc _ ?_ | refine grow_drew ?_)))) (HL.out.below (by (repeat (first | exact grow_refl _ | refine grow_ext _ ?_ | refine grow_alloc _ ?_ | refine grow_drew ?_)))) (HR.out.below (by (repeat (first | exact grow_refl _ | refine grow_ext _ ?_ | refine grow_alloc _ ?_ | refine grow_drew ?_))))).mono ?_; rintro e w' ⟨v2, rfl, hown, x1, rfl⟩
    obtain ⟨a2, c2, rfl, -, -, -⟩ := own_shape hown
    clear hown
    go_wp2
    go_ret2
    exact ⟨_, rfl, World.ownsRow_nil _ _ _ _, ext_of (by (repeat (first | exact grow_refl _ | refine grow_ext _ ?_ | refine grow_alloc _ ?_ | refine grow_drew ?_)))⟩
  · have d1 : decide (st < 1) = false := decide_eq_false h1
    have d2 : decide (1048576 < st) = true := decide_eq_true (by omega)
    clear hst h1
    go_enter Tryz.func31, Tryz.ntmps31
    go_wp2_with fail
    go_at_call 53; refine (HG.out _ (HQ.out.below (by (repeat (first | exact grow_refl _ | refine grow_ext _ ?_ | refine grow_alloc _ ?_ | refine grow_drew ?_)))) (HL.out.below (by (repeat (first | exact grow_refl _ | refine grow_ext _ ?_ | refine grow_alloc _ ?_ | refine grow_drew ?_)))) (HR.out.below (by (repeat (first | exact grow_refl _ | refine grow_ext _ ?_ | refine grow_alloc _ ?_ | refine grow_drew ?_))))).mono ?_; rintro e w' ⟨v2, rfl, hown, x1, rfl⟩
    obtain ⟨a2, c2, rfl, -, -, -⟩ := own_shape hown
    clear hown
    go_wp2
    go_ret2
    exact ⟨_, rfl, World.ownsRow_nil _ _ _ _, ext_of (by (repeat (first | exact grow_refl _ | refine grow_ext _ ?_ | refine grow_alloc _ ?_ | refine grow_drew ?_)))⟩

set_option maxRecDepth 100000 in
set_option maxHeartbeats 4000000 in
theorem pPlaces_d (q : Mb) (l : List Br) (rs : List Rn) (v u : Value) (st : Int) (hm : okMb q = true) (hv : laidB l rs = true) (h1 : 1 ≤ st) (h2 : st ≤ 1048576) (L : List Pt) (E : Int) (h : (if largeB q st = true then ([], 6) else (gridP q (rodsI l rs) st, 0)) = (L, E)) (w : World) (hq : MbAt w q) (hl : Bars w v l) (hr : Runs w u rs) :
    Calls Tryz.prog 31 #[(.agg #[.string q.name, q.u, q.t, .int .i64 q.cover, .int .i64 q.agg, .int .i64 q.poker]), v, u, .int .i64 st] w (RetPtsE w L E) := by
  have HQ := Lib.hid hq
  have HL := Lib.hid hl
  have HR := Lib.hid hr
  have HG := Lib.hid (fun w hq hl hr => pgiven_c q l rs v u w hq hl hr)
  rw [givenP_yes hm hv] at HG
  simp only at HG
  have hs := (okMb_facts hm).1
  have HGR := Lib.hid (fun w hq => grid_w q st hs h1 h2 w hq)
  have HPL := Lib.hid (fun (hlg : largeB q st = false) v v0 v1 v2 w hq hv' => places_c q (rodsI l rs) v (gridL (hullX q.l).lx (hullX q.l).hx st) (gridL (hullX q.l).ly (hullX q.l).hy st) (gridL (hullX q.l).lz (hullX q.l).hz st) v0 v1 v2 (fun x hx y hy z hz => (tip_grid (st := st) hm h1 x hx y hy z hz).1) (rods_ok hv) (grid_few hs h1 hlg).1 w hq hv')
  have HHH := Lib.hid h
  unfold gridP at HHH
  have d1 : decide (st < 1) = false := decide_eq_false (by omega)
  have d2 : decide (1048576 < st) = false := decide_eq_false (by omega)
  generalize rodsI l rs = R at *
  unfold RetGrid at HGR
  generalize gridL (hullX q.l).lx (hullX q.l).hx st = X at *
  generalize gridL (hullX q.l).ly (hullX q.l).hy st = Y at *
  generalize gridL (hullX q.l).lz (hullX q.l).hz st = Z at *
  generalize largeB q st = lg at *
  clear hq hl hr h hm hv hs h1 h2
  go_enter Tryz.func31, Tryz.ntmps31
  go_wp2_with fail
  go_at_call 53; refine (HG.out _ (HQ.out.below (by (repeat (first | exact grow_refl _ | refine grow_ext _ ?_ | refine grow_alloc _ ?_ | refine grow_drew ?_)))) (HL.out.below (by (repeat (first | exact grow_refl _ | refine grow_ext _ ?_ | refine grow_alloc _ ?_ | refine grow_drew ?_)))) (HR.out.below (by (repeat (first | exact grow_refl _ | refine grow_ext _ ?_ | refine grow_alloc _ ?_ | refine grow_drew ?_))))).mono ?_; rintro e w' ⟨v2, rfl, hown, x1, rfl⟩
  have HO := Lib.hid (Rcs.of_own hown)
  obtain ⟨a2, c2, rfl, k2, m2, -⟩ := own_shape hown
  have n2 : c2 ≤ 9223372036854775807 := m2
  clear hown m2
  go_wp2_with fail
  go_at_call 76
  refine (HGR.out _ (HQ.out.below (by (repeat (first | exact grow_refl _ | refine grow_ext _ ?_ | refine grow_alloc _ ?_ | refine grow_drew ?_))))).mono ?_
  rintro e w' (⟨hlg, rfl, x2, rfl⟩ | ⟨hlg, v0, v1, v2, rfl, i0, i1, i2, x2, rfl⟩)
  · have hE := HHH.out
    rw [if_pos hlg] at hE
    cases hE
    clear hlg
    go_wp2
    go_ret2
    exact ⟨_, rfl, World.ownsRow_nil _ _ _ _, ext_of (by (repeat (first | exact grow_refl _ | refine grow_ext _ ?_ | refine grow_alloc _ ?_ | refine grow_drew ?_)))⟩
  · have hE := HHH.out
    rw [if_neg (by rw [hlg]; decide)] at hE
    cases hE
    have HPK := Lib.hid (HPL.out hlg)
    have I0 := Lib.hid i0
    have I1 := Lib.hid i1
    have I2 := Lib.hid i2
    obtain ⟨b0, o0, k0, rfl, -, -, -⟩ := i0
    obtain ⟨b1, o1, k1, rfl, -, -, -⟩ := i1
    obtain ⟨b2, o2, k3, rfl, -, -, -⟩ := i2
    clear hlg
    go_wp2_with fail
    go_at_call 77
    refine (HPK.out _ _ _ _ _ (HQ.out.below (by (repeat (first | exact grow_refl _ | refine grow_ext _ ?_ | refine grow_alloc _ ?_ | refine grow_drew ?_)))) (HO.out.below (by (repeat (first | exact grow_refl _ | refine grow_ext _ ?_ | refine grow_alloc _ ?_ | refine grow_drew ?_)))) (I0.out.below (by (repeat (first | exact grow_refl _ | refine grow_ext _ ?_ | refine grow_alloc _ ?_ | refine grow_drew ?_)))) (I1.out.below (by (repeat (first | exact grow_refl _ | refine grow_ext _ ?_ | refine grow_alloc _ ?_ | refine grow_drew ?_)))) (I2.out.below (by (repeat (first | exact grow_refl _ | refine grow_ext _ ?_ | refine grow_alloc _ ?_ | refine grow_drew ?_))))).mono ?_
    rintro e w' ⟨vp, rfl, hownp, xp, rfl⟩
    have HOP := Lib.hid hownp
    obtain ⟨ap, cp, rfl, kp, mp, -⟩ := own_shape hownp
    have np : cp ≤ 9223372036854775807 := mp
    clear hownp mp
    go_wp2
    go_ret2
    exact ⟨_, rfl, own_mono HOP.out (by simp only [size_ext, World.size_alloc]; omega), ext_of (by (repeat (first | exact grow_refl _ | refine grow_ext _ ?_ | refine grow_alloc _ ?_ | refine grow_drew ?_)))⟩

theorem pPlaces_c (q : Mb) (l : List Br) (rs : List Rn) (v u : Value) (st : Int) (L : List Pt) (E : Int) (h : placesE q l rs st = (L, E)) (w : World) (hq : MbAt w q) (hl : Bars w v l) (hr : Runs w u rs) :
    Calls Tryz.prog 31 #[(.agg #[.string q.name, q.u, q.t, .int .i64 q.cover, .int .i64 q.agg, .int .i64 q.poker]), v, u, .int .i64 st] w (RetPtsE w L E) := by
  unfold placesE at h
  by_cases hok : okMb q = true ∧ laidB l rs = true
  · rw [if_pos hok] at h
    cases hst : stepB st
    · rw [hst, if_neg (by decide)] at h
      cases h
      exact pPlaces_b q l rs v u st hok.1 hok.2 hst w hq hl hr
    · rw [hst, if_pos rfl] at h
      obtain ⟨h1, h2⟩ := stepB_iff.1 hst
      exact pPlaces_d q l rs v u st hok.1 hok.2 h1 h2 L E h w hq hl hr
  · rw [if_neg hok] at h
    cases h
    exact pPlaces_a q l rs v u st hok w hq hl hr

end Go.Proofs.YtmoechhfjmemaaaGreat

