/- PokL, PokN, DelR in one text. -/
import Derived.Test.YtmoechhfjmemaaaGreatPokK1
import Derived.Test.YtmoechhfjmemaaaGreatPokK2
import Derived.Test.YtmoechhfjmemaaaGreatLaidK5
import Derived.Deep.MidRow
import Derived.Deep.RegionLaw
import Derived.Lib.SliceRun
import Derived.Test.YtmoechhfjmemaaaGreatRefK
import Derived.Test.YtmoechhfjmemaaaGreatBoxK2
import Derived.Shelf.RegionOpenPlain
namespace Go.Proofs.YtmoechhfjmemaaaGreat
open Go.RowKit
set_option maxRecDepth 20000

theorem free_up {q : Mb} {R : List Rc} {p : Pt} {z : Int} (h : freeR q R p = true) (h1 : p.z ≤ z) (h2 : z ≤ topI q) : freeR q R ⟨p.x, p.y, z⟩ = true := by
  unfold freeR at h ⊢
  simp only [Bool.and_eq_true] at h ⊢
  obtain ⟨hv, hc, hr⟩ := h
  have hb := valid_iff.1 hv
  unfold colX at hb
  simp only at hb
  have hv2 : validB (colX q ⟨p.x, p.y, z⟩) = true := by rw [valid_iff]; unfold colX; simp only; omega
  refine ⟨hv2, ?_, ?_⟩
  · refine containsS_sub (b := colX q p) ?_ ?_ ?_ hc
    · unfold colX; simp only; omega
    · unfold colX; simp only; omega
    · rw [contains_iff]; unfold colX; simp only; omega
  · unfold clearB at hr ⊢
    rw [List.all_eq_true] at hr ⊢
    intro x hx
    have := hr x hx
    simp only [decide_eq_true_eq] at this ⊢
    have hg : gapI x.box (colX q p) ≤ gapI x.box (colX q ⟨p.x, p.y, z⟩) := by
      unfold gapI alongI colX Bx.lo Bx.hi
      simp only
      simp
      omega
    omega
theorem free_fewer {q : Mb} {R R' : List Rc} {p : Pt} (h : freeR q R p = true) (hs : ∀ r ∈ R', r ∈ R) : freeR q R' p = true := by
  unfold freeR at h ⊢
  simp only [Bool.and_eq_true] at h ⊢
  refine ⟨h.1, h.2.1, ?_⟩
  unfold clearB
  rw [List.all_eq_true]
  intro x hx
  exact List.all_eq_true.1 h.2.2 x (hs x hx)
theorem free_alone (q : Mb) (p : Pt) : freeR q [] p = (validB (colX q p) && containsS q.l q.m (colX q p)) := by
  unfold freeR clearB; simp

theorem placeR_find {l : List Br} {rs : List Rn} (h : ∀ r ∈ rs, runB l r = true) {x : Rn} (hx : x ∈ rs) {j : Int} (h0 : 0 ≤ j) (hj : j < x.count) : ∃ i, 0 ≤ i ∧ i < countS rs ∧ placeR rs i = some (x, j) := by
  induction rs with
  | nil => cases hx
  | cons r rs ih =>
    have h2 := countS_nonneg (fun x hx => h x (List.mem_cons_of_mem _ hx))
    have h3 := runB_count (h r List.mem_cons_self)
    simp only [countS]
    rcases List.mem_cons.1 hx with rfl | hx
    · exact ⟨j, h0, by omega, by simp only [placeR]; rw [if_pos hj]⟩
    · obtain ⟨i, i0, i1, e⟩ := ih (fun x hx => h x (List.mem_cons_of_mem _ hx)) hx
      refine ⟨i + r.count, by omega, by omega, ?_⟩
      simp only [placeR]
      rw [if_neg (by omega), show i + r.count - r.count = i by omega, e]
theorem rods_mem {l : List Br} {rs : List Rn} (h : ∀ r ∈ rs, runB l r = true) (c : Rc) : c ∈ rodsI l rs ↔ ∃ x ∈ rs, ∃ j : Int, 0 ≤ j ∧ j < x.count ∧ ∃ b ∈ legsP (laidL (barOf l x.mark) x j), c = ⟨b, halfI (barOf l x.mark).size⟩ := by
  unfold rodsI rodsTo
  rw [List.mem_flatMap]
  constructor
  · rintro ⟨i, hi, hc⟩
    have hi := List.mem_range.1 hi
    obtain ⟨x, j, e, hx, j0, j1⟩ := placeR_some h (i := (i : Int)) (by omega) (by omega)
    unfold rodsAt at hc
    obtain ⟨b, hb, rfl⟩ := List.mem_map.1 hc
    have hm : markI rs (i : Int) = x.mark := by unfold markI; rw [e]
    have hp : pathI l rs (i : Int) = laidL (barOf l x.mark) x j := by unfold pathI; rw [e]
    unfold legsI at hb
    rw [hp] at hb
    exact ⟨x, hx, j, j0, j1, b, hb, by unfold sizeI; rw [hm]⟩
  · rintro ⟨x, hx, j, j0, j1, b, hb, rfl⟩
    obtain ⟨i, i0, i1, e⟩ := placeR_find h hx j0 j1
    have hm : markI rs i = x.mark := by unfold markI; rw [e]
    have hp : pathI l rs i = laidL (barOf l x.mark) x j := by unfold pathI; rw [e]
    obtain ⟨n, rfl⟩ : ∃ n : Nat, i = n := ⟨i.toNat, by omega⟩
    refine ⟨n, List.mem_range.2 (by omega), ?_⟩
    unfold rodsAt
    refine List.mem_map.2 ⟨b, ?_, by unfold sizeI; rw [hm]⟩
    unfold legsI
    rw [hp]; exact hb
theorem mem_erase {α : Type} {l : List α} {i : Nat} {x : α} (h : x ∈ l.take i ++ l.drop (i + 1)) : x ∈ l := by
  rcases List.mem_append.1 h with h | h
  · exact List.mem_of_mem_take h
  · exact List.mem_of_mem_drop h
theorem count_app (a b : List Rn) : countS (a ++ b) = countS a + countS b := countS_append a b
theorem laid_erase {l : List Br} {rs : List Rn} (h : laidB l rs = true) {i : Nat} (hi : i < rs.length) : laidB l (rs.take i ++ rs.drop (i + 1)) = true := by
  obtain ⟨h1, h2, h3, h4⟩ := laidB_iff.1 h
  refine laidB_iff.2 ⟨h1, ?_, fun r hr => h3 r (mem_erase hr), ?_⟩
  · rw [List.length_append, List.length_take, List.length_drop]; omega
  · have e : rs = rs.take i ++ (rs[i] :: rs.drop (i + 1)) := by rw [← List.drop_eq_getElem_cons hi, List.take_append_drop]
    have hc := runB_count (h3 _ (List.getElem_mem hi))
    have : countS rs = countS (rs.take i) + (rs[i].count + countS (rs.drop (i + 1))) := by
      conv => lhs; rw [e]
      rw [count_app]; rfl
    rw [count_app]; omega
theorem rods_erase {l : List Br} {rs : List Rn} (h : laidB l rs = true) {i : Nat} (hi : i < rs.length) : ∀ r ∈ rodsI l (rs.take i ++ rs.drop (i + 1)), r ∈ rodsI l rs := by
  intro r hr
  have h3 := (laidB_iff.1 h).2.2.1
  have h3' := (laidB_iff.1 (laid_erase h hi)).2.2.1
  obtain ⟨x, hx, j, j0, j1, b, hb, rfl⟩ := (rods_mem h3' r).1 hr
  exact (rods_mem h3 _).2 ⟨x, mem_erase hx, j, j0, j1, b, hb, rfl⟩
theorem laid_none : laidB [] [] = true := by kernel_rfl
theorem rods_none : rodsI [] [] = [] := by kernel_rfl

end Go.Proofs.YtmoechhfjmemaaaGreat

namespace Go.Proofs.YtmoechhfjmemaaaGreat
open Go.RowKit
set_option maxRecDepth 20000

theorem getD_set_self (L : Array Bool) (i : Nat) : (L.setIfInBounds i true).getD i true = true := by
  unfold Array.getD
  by_cases h : i < (L.setIfInBounds i true).size
  · simp only [h, dite_true]; simp
  · simp only [h, dite_false]

structure I15 (W1 : World) (gp gb : Nat) (p : Pt) (up h m : Int) (L : Array Bool) (s21 s87 s88 s89 s90 s91 s92 s93 s94 s95 s96 s97 s98 s99 s100 s101 s102 s103 s104 : Value) (W : World) : Prop where
  below : Below W1.heap.size W1 W
  rA : L.getD 18 true = true → ∃ g, s21 = .pointer (some ⟨g, 0, none⟩) ∧ W1.heap.size ≤ g ∧ ∃ c0 c1 c2, Blk W g #[c0, c1, c2] 30 ∧ (L.getD 19 true = true → #[c0, c1, c2] = (#[.int .i64 p.x, .int .i64 p.y, .int .i64 (p.z + m)] : Array Value))
  c19 : L.getD 19 true = true → L.getD 18 true = true
  e0 : L.getD 0 true = true → s87 = .pointer (some ⟨gp, 0, none⟩)
  e1 : L.getD 1 true = true → s88 = .int .i64 p.x
  e2 : L.getD 2 true = true → s89 = .pointer (some ⟨gp, 1, none⟩)
  e3 : L.getD 3 true = true → s90 = .int .i64 p.y
  e4 : L.getD 4 true = true → s91 = .pointer (some ⟨gp, 2, none⟩)
  e5 : L.getD 5 true = true → s92 = .int .i64 p.z
  e6 : L.getD 6 true = true → s93 = .int .u16 up
  e7 : L.getD 7 true = true → s94 = .int .i64 up
  e8 : L.getD 8 true = true → s95 = .pointer (some ⟨gb, 3, none⟩)
  e9 : L.getD 9 true = true → s96 = .pointer (some ⟨gb, 5, none⟩)
  e10 : L.getD 10 true = true → s97 = .int .i64 h
  e11 : L.getD 11 true = true → s98 = .pointer (some ⟨gp, 2, none⟩)
  e12 : L.getD 12 true = true → s99 = .int .i64 p.z
  e13 : L.getD 13 true = true → s100 = .int .i64 (h - p.z)
  e14 : L.getD 14 true = true → s101 = .int .i64 (h - p.z + 1)
  e15 : L.getD 15 true = true → s102 = .int .i64 m
  e16 : L.getD 16 true = true → s103 = .int .i64 (p.z + m)
  e17 : L.getD 17 true = true → s104 = .agg #[.int .i64 p.x, .int .i64 p.y, .int .i64 (p.z + m)]
theorem I15.grown {W1 : World} {gp gb : Nat} {p : Pt} {up h m : Int} {L : Array Bool} {s21 s87 s88 s89 s90 s91 s92 s93 s94 s95 s96 s97 s98 s99 s100 s101 s102 s103 s104 : Value} {W : World} (h0 : I15 W1 gp gb p up h m L s21 s87 s88 s89 s90 s91 s92 s93 s94 s95 s96 s97 s98 s99 s100 s101 s102 s103 s104 W) (x : World) : I15 W1 gp gb p up h m L s21 s87 s88 s89 s90 s91 s92 s93 s94 s95 s96 s97 s98 s99 s100 s101 s102 s103 s104 (ext W x) where
  below := grow_ext _ h0.below
  rA := fun e => let ⟨g, h1, h2, c0, c1, c2, hb, hc⟩ := h0.rA e; ⟨g, h1, h2, c0, c1, c2, hb.ext x, hc⟩
  c19 := h0.c19
  e0 := h0.e0
  e1 := h0.e1
  e2 := h0.e2
  e3 := h0.e3
  e4 := h0.e4
  e5 := h0.e5
  e6 := h0.e6
  e7 := h0.e7
  e8 := h0.e8
  e9 := h0.e9
  e10 := h0.e10
  e11 := h0.e11
  e12 := h0.e12
  e13 := h0.e13
  e14 := h0.e14
  e15 := h0.e15
  e16 := h0.e16
  e17 := h0.e17
theorem I15.up0 {W1 : World} {gp gb : Nat} {p : Pt} {up h m : Int} {L : Array Bool} {s21 s87 s88 s89 s90 s91 s92 s93 s94 s95 s96 s97 s98 s99 s100 s101 s102 s103 s104 v : Value} {W : World} (h0 : I15 W1 gp gb p up h m L s21 s87 s88 s89 s90 s91 s92 s93 s94 s95 s96 s97 s98 s99 s100 s101 s102 s103 s104 W) (hv : v = .pointer (some ⟨gp, 0, none⟩)) : I15 W1 gp gb p up h m (L.setIfInBounds 0 true) s21 v s88 s89 s90 s91 s92 s93 s94 s95 s96 s97 s98 s99 s100 s101 s102 s103 s104 W where
  below := h0.below
  rA := fun e => let ⟨g, h1, h2, c0, c1, c2, hb, hc⟩ := h0.rA (by rwa [getD_set_ne true (by decide)] at e); ⟨g, h1, h2, c0, c1, c2, hb, fun e2 => hc (by rwa [getD_set_ne true (by decide)] at e2)⟩
  c19 := fun e => by rw [getD_set_ne true (by decide)] at e ⊢; exact h0.c19 e
  e0 := fun _ => hv
  e1 := fun e => h0.e1 (by rwa [getD_set_ne true (by decide)] at e)
  e2 := fun e => h0.e2 (by rwa [getD_set_ne true (by decide)] at e)
  e3 := fun e => h0.e3 (by rwa [getD_set_ne true (by decide)] at e)
  e4 := fun e => h0.e4 (by rwa [getD_set_ne true (by decide)] at e)
  e5 := fun e => h0.e5 (by rwa [getD_set_ne true (by decide)] at e)
  e6 := fun e => h0.e6 (by rwa [getD_set_ne true (by decide)] at e)
  e7 := fun e => h0.e7 (by rwa [getD_set_ne true (by decide)] at e)
  e8 := fun e => h0.e8 (by rwa [getD_set_ne true (by decide)] at e)
  e9 := fun e => h0.e9 (by rwa [getD_set_ne true (by decide)] at e)
  e10 := fun e => h0.e10 (by rwa [getD_set_ne true (by decide)] at e)
  e11 := fun e => h0.e11 (by rwa [getD_set_ne true (by decide)] at e)
  e12 := fun e => h0.e12 (by rwa [getD_set_ne true (by decide)] at e)
  e13 := fun e => h0.e13 (by rwa [getD_set_ne true (by decide)] at e)
  e14 := fun e => h0.e14 (by rwa [getD_set_ne true (by decide)] at e)
  e15 := fun e => h0.e15 (by rwa [getD_set_ne true (by decide)] at e)
  e16 := fun e => h0.e16 (by rwa [getD_set_ne true (by decide)] at e)
  e17 := fun e => h0.e17 (by rwa [getD_set_ne true (by decide)] at e)
theorem I15.up1 {W1 : World} {gp gb : Nat} {p : Pt} {up h m : Int} {L : Array Bool} {s21 s87 s88 s89 s90 s91 s92 s93 s94 s95 s96 s97 s98 s99 s100 s101 s102 s103 s104 v : Value} {W : World} (h0 : I15 W1 gp gb p up h m L s21 s87 s88 s89 s90 s91 s92 s93 s94 s95 s96 s97 s98 s99 s100 s101 s102 s103 s104 W) (hv : v = .int .i64 p.x) : I15 W1 gp gb p up h m (L.setIfInBounds 1 true) s21 s87 v s89 s90 s91 s92 s93 s94 s95 s96 s97 s98 s99 s100 s101 s102 s103 s104 W where
  below := h0.below
  rA := fun e => let ⟨g, h1, h2, c0, c1, c2, hb, hc⟩ := h0.rA (by rwa [getD_set_ne true (by decide)] at e); ⟨g, h1, h2, c0, c1, c2, hb, fun e2 => hc (by rwa [getD_set_ne true (by decide)] at e2)⟩
  c19 := fun e => by rw [getD_set_ne true (by decide)] at e ⊢; exact h0.c19 e
  e0 := fun e => h0.e0 (by rwa [getD_set_ne true (by decide)] at e)
  e1 := fun _ => hv
  e2 := fun e => h0.e2 (by rwa [getD_set_ne true (by decide)] at e)
  e3 := fun e => h0.e3 (by rwa [getD_set_ne true (by decide)] at e)
  e4 := fun e => h0.e4 (by rwa [getD_set_ne true (by decide)] at e)
  e5 := fun e => h0.e5 (by rwa [getD_set_ne true (by decide)] at e)
  e6 := fun e => h0.e6 (by rwa [getD_set_ne true (by decide)] at e)
  e7 := fun e => h0.e7 (by rwa [getD_set_ne true (by decide)] at e)
  e8 := fun e => h0.e8 (by rwa [getD_set_ne true (by decide)] at e)
  e9 := fun e => h0.e9 (by rwa [getD_set_ne true (by decide)] at e)
  e10 := fun e => h0.e10 (by rwa [getD_set_ne true (by decide)] at e)
  e11 := fun e => h0.e11 (by rwa [getD_set_ne true (by decide)] at e)
  e12 := fun e => h0.e12 (by rwa [getD_set_ne true (by decide)] at e)
  e13 := fun e => h0.e13 (by rwa [getD_set_ne true (by decide)] at e)
  e14 := fun e => h0.e14 (by rwa [getD_set_ne true (by decide)] at e)
  e15 := fun e => h0.e15 (by rwa [getD_set_ne true (by decide)] at e)
  e16 := fun e => h0.e16 (by rwa [getD_set_ne true (by decide)] at e)
  e17 := fun e => h0.e17 (by rwa [getD_set_ne true (by decide)] at e)
theorem I15.up2 {W1 : World} {gp gb : Nat} {p : Pt} {up h m : Int} {L : Array Bool} {s21 s87 s88 s89 s90 s91 s92 s93 s94 s95 s96 s97 s98 s99 s100 s101 s102 s103 s104 v : Value} {W : World} (h0 : I15 W1 gp gb p up h m L s21 s87 s88 s89 s90 s91 s92 s93 s94 s95 s96 s97 s98 s99 s100 s101 s102 s103 s104 W) (hv : v = .pointer (some ⟨gp, 1, none⟩)) : I15 W1 gp gb p up h m (L.setIfInBounds 2 true) s21 s87 s88 v s90 s91 s92 s93 s94 s95 s96 s97 s98 s99 s100 s101 s102 s103 s104 W where
  below := h0.below
  rA := fun e => let ⟨g, h1, h2, c0, c1, c2, hb, hc⟩ := h0.rA (by rwa [getD_set_ne true (by decide)] at e); ⟨g, h1, h2, c0, c1, c2, hb, fun e2 => hc (by rwa [getD_set_ne true (by decide)] at e2)⟩
  c19 := fun e => by rw [getD_set_ne true (by decide)] at e ⊢; exact h0.c19 e
  e0 := fun e => h0.e0 (by rwa [getD_set_ne true (by decide)] at e)
  e1 := fun e => h0.e1 (by rwa [getD_set_ne true (by decide)] at e)
  e2 := fun _ => hv
  e3 := fun e => h0.e3 (by rwa [getD_set_ne true (by decide)] at e)
  e4 := fun e => h0.e4 (by rwa [getD_set_ne true (by decide)] at e)
  e5 := fun e => h0.e5 (by rwa [getD_set_ne true (by decide)] at e)
  e6 := fun e => h0.e6 (by rwa [getD_set_ne true (by decide)] at e)
  e7 := fun e => h0.e7 (by rwa [getD_set_ne true (by decide)] at e)
  e8 := fun e => h0.e8 (by rwa [getD_set_ne true (by decide)] at e)
  e9 := fun e => h0.e9 (by rwa [getD_set_ne true (by decide)] at e)
  e10 := fun e => h0.e10 (by rwa [getD_set_ne true (by decide)] at e)
  e11 := fun e => h0.e11 (by rwa [getD_set_ne true (by decide)] at e)
  e12 := fun e => h0.e12 (by rwa [getD_set_ne true (by decide)] at e)
  e13 := fun e => h0.e13 (by rwa [getD_set_ne true (by decide)] at e)
  e14 := fun e => h0.e14 (by rwa [getD_set_ne true (by decide)] at e)
  e15 := fun e => h0.e15 (by rwa [getD_set_ne true (by decide)] at e)
  e16 := fun e => h0.e16 (by rwa [getD_set_ne true (by decide)] at e)
  e17 := fun e => h0.e17 (by rwa [getD_set_ne true (by decide)] at e)
theorem I15.up3 {W1 : World} {gp gb : Nat} {p : Pt} {up h m : Int} {L : Array Bool} {s21 s87 s88 s89 s90 s91 s92 s93 s94 s95 s96 s97 s98 s99 s100 s101 s102 s103 s104 v : Value} {W : World} (h0 : I15 W1 gp gb p up h m L s21 s87 s88 s89 s90 s91 s92 s93 s94 s95 s96 s97 s98 s99 s100 s101 s102 s103 s104 W) (hv : v = .int .i64 p.y) : I15 W1 gp gb p up h m (L.setIfInBounds 3 true) s21 s87 s88 s89 v s91 s92 s93 s94 s95 s96 s97 s98 s99 s100 s101 s102 s103 s104 W where
  below := h0.below
  rA := fun e => let ⟨g, h1, h2, c0, c1, c2, hb, hc⟩ := h0.rA (by rwa [getD_set_ne true (by decide)] at e); ⟨g, h1, h2, c0, c1, c2, hb, fun e2 => hc (by rwa [getD_set_ne true (by decide)] at e2)⟩
  c19 := fun e => by rw [getD_set_ne true (by decide)] at e ⊢; exact h0.c19 e
  e0 := fun e => h0.e0 (by rwa [getD_set_ne true (by decide)] at e)
  e1 := fun e => h0.e1 (by rwa [getD_set_ne true (by decide)] at e)
  e2 := fun e => h0.e2 (by rwa [getD_set_ne true (by decide)] at e)
  e3 := fun _ => hv
  e4 := fun e => h0.e4 (by rwa [getD_set_ne true (by decide)] at e)
  e5 := fun e => h0.e5 (by rwa [getD_set_ne true (by decide)] at e)
  e6 := fun e => h0.e6 (by rwa [getD_set_ne true (by decide)] at e)
  e7 := fun e => h0.e7 (by rwa [getD_set_ne true (by decide)] at e)
  e8 := fun e => h0.e8 (by rwa [getD_set_ne true (by decide)] at e)
  e9 := fun e => h0.e9 (by rwa [getD_set_ne true (by decide)] at e)
  e10 := fun e => h0.e10 (by rwa [getD_set_ne true (by decide)] at e)
  e11 := fun e => h0.e11 (by rwa [getD_set_ne true (by decide)] at e)
  e12 := fun e => h0.e12 (by rwa [getD_set_ne true (by decide)] at e)
  e13 := fun e => h0.e13 (by rwa [getD_set_ne true (by decide)] at e)
  e14 := fun e => h0.e14 (by rwa [getD_set_ne true (by decide)] at e)
  e15 := fun e => h0.e15 (by rwa [getD_set_ne true (by decide)] at e)
  e16 := fun e => h0.e16 (by rwa [getD_set_ne true (by decide)] at e)
  e17 := fun e => h0.e17 (by rwa [getD_set_ne true (by decide)] at e)
theorem I15.up4 {W1 : World} {gp gb : Nat} {p : Pt} {up h m : Int} {L : Array Bool} {s21 s87 s88 s89 s90 s91 s92 s93 s94 s95 s96 s97 s98 s99 s100 s101 s102 s103 s104 v : Value} {W : World} (h0 : I15 W1 gp gb p up h m L s21 s87 s88 s89 s90 s91 s92 s93 s94 s95 s96 s97 s98 s99 s100 s101 s102 s103 s104 W) (hv : v = .pointer (some ⟨gp, 2, none⟩)) : I15 W1 gp gb p up h m (L.setIfInBounds 4 true) s21 s87 s88 s89 s90 v s92 s93 s94 s95 s96 s97 s98 s99 s100 s101 s102 s103 s104 W where
  below := h0.below
  rA := fun e => let ⟨g, h1, h2, c0, c1, c2, hb, hc⟩ := h0.rA (by rwa [getD_set_ne true (by decide)] at e); ⟨g, h1, h2, c0, c1, c2, hb, fun e2 => hc (by rwa [getD_set_ne true (by decide)] at e2)⟩
  c19 := fun e => by rw [getD_set_ne true (by decide)] at e ⊢; exact h0.c19 e
  e0 := fun e => h0.e0 (by rwa [getD_set_ne true (by decide)] at e)
  e1 := fun e => h0.e1 (by rwa [getD_set_ne true (by decide)] at e)
  e2 := fun e => h0.e2 (by rwa [getD_set_ne true (by decide)] at e)
  e3 := fun e => h0.e3 (by rwa [getD_set_ne true (by decide)] at e)
  e4 := fun _ => hv
  e5 := fun e => h0.e5 (by rwa [getD_set_ne true (by decide)] at e)
  e6 := fun e => h0.e6 (by rwa [getD_set_ne true (by decide)] at e)
  e7 := fun e => h0.e7 (by rwa [getD_set_ne true (by decide)] at e)
  e8 := fun e => h0.e8 (by rwa [getD_set_ne true (by decide)] at e)
  e9 := fun e => h0.e9 (by rwa [getD_set_ne true (by decide)] at e)
  e10 := fun e => h0.e10 (by rwa [getD_set_ne true (by decide)] at e)
  e11 := fun e => h0.e11 (by rwa [getD_set_ne true (by decide)] at e)
  e12 := fun e => h0.e12 (by rwa [getD_set_ne true (by decide)] at e)
  e13 := fun e => h0.e13 (by rwa [getD_set_ne true (by decide)] at e)
  e14 := fun e => h0.e14 (by rwa [getD_set_ne true (by decide)] at e)
  e15 := fun e => h0.e15 (by rwa [getD_set_ne true (by decide)] at e)
  e16 := fun e => h0.e16 (by rwa [getD_set_ne true (by decide)] at e)
  e17 := fun e => h0.e17 (by rwa [getD_set_ne true (by decide)] at e)
theorem I15.up5 {W1 : World} {gp gb : Nat} {p : Pt} {up h m : Int} {L : Array Bool} {s21 s87 s88 s89 s90 s91 s92 s93 s94 s95 s96 s97 s98 s99 s100 s101 s102 s103 s104 v : Value} {W : World} (h0 : I15 W1 gp gb p up h m L s21 s87 s88 s89 s90 s91 s92 s93 s94 s95 s96 s97 s98 s99 s100 s101 s102 s103 s104 W) (hv : v = .int .i64 p.z) : I15 W1 gp gb p up h m (L.setIfInBounds 5 true) s21 s87 s88 s89 s90 s91 v s93 s94 s95 s96 s97 s98 s99 s100 s101 s102 s103 s104 W where
  below := h0.below
  rA := fun e => let ⟨g, h1, h2, c0, c1, c2, hb, hc⟩ := h0.rA (by rwa [getD_set_ne true (by decide)] at e); ⟨g, h1, h2, c0, c1, c2, hb, fun e2 => hc (by rwa [getD_set_ne true (by decide)] at e2)⟩
  c19 := fun e => by rw [getD_set_ne true (by decide)] at e ⊢; exact h0.c19 e
  e0 := fun e => h0.e0 (by rwa [getD_set_ne true (by decide)] at e)
  e1 := fun e => h0.e1 (by rwa [getD_set_ne true (by decide)] at e)
  e2 := fun e => h0.e2 (by rwa [getD_set_ne true (by decide)] at e)
  e3 := fun e => h0.e3 (by rwa [getD_set_ne true (by decide)] at e)
  e4 := fun e => h0.e4 (by rwa [getD_set_ne true (by decide)] at e)
  e5 := fun _ => hv
  e6 := fun e => h0.e6 (by rwa [getD_set_ne true (by decide)] at e)
  e7 := fun e => h0.e7 (by rwa [getD_set_ne true (by decide)] at e)
  e8 := fun e => h0.e8 (by rwa [getD_set_ne true (by decide)] at e)
  e9 := fun e => h0.e9 (by rwa [getD_set_ne true (by decide)] at e)
  e10 := fun e => h0.e10 (by rwa [getD_set_ne true (by decide)] at e)
  e11 := fun e => h0.e11 (by rwa [getD_set_ne true (by decide)] at e)
  e12 := fun e => h0.e12 (by rwa [getD_set_ne true (by decide)] at e)
  e13 := fun e => h0.e13 (by rwa [getD_set_ne true (by decide)] at e)
  e14 := fun e => h0.e14 (by rwa [getD_set_ne true (by decide)] at e)
  e15 := fun e => h0.e15 (by rwa [getD_set_ne true (by decide)] at e)
  e16 := fun e => h0.e16 (by rwa [getD_set_ne true (by decide)] at e)
  e17 := fun e => h0.e17 (by rwa [getD_set_ne true (by decide)] at e)
theorem I15.up6 {W1 : World} {gp gb : Nat} {p : Pt} {up h m : Int} {L : Array Bool} {s21 s87 s88 s89 s90 s91 s92 s93 s94 s95 s96 s97 s98 s99 s100 s101 s102 s103 s104 v : Value} {W : World} (h0 : I15 W1 gp gb p up h m L s21 s87 s88 s89 s90 s91 s92 s93 s94 s95 s96 s97 s98 s99 s100 s101 s102 s103 s104 W) (hv : v = .int .u16 up) : I15 W1 gp gb p up h m (L.setIfInBounds 6 true) s21 s87 s88 s89 s90 s91 s92 v s94 s95 s96 s97 s98 s99 s100 s101 s102 s103 s104 W where
  below := h0.below
  rA := fun e => let ⟨g, h1, h2, c0, c1, c2, hb, hc⟩ := h0.rA (by rwa [getD_set_ne true (by decide)] at e); ⟨g, h1, h2, c0, c1, c2, hb, fun e2 => hc (by rwa [getD_set_ne true (by decide)] at e2)⟩
  c19 := fun e => by rw [getD_set_ne true (by decide)] at e ⊢; exact h0.c19 e
  e0 := fun e => h0.e0 (by rwa [getD_set_ne true (by decide)] at e)
  e1 := fun e => h0.e1 (by rwa [getD_set_ne true (by decide)] at e)
  e2 := fun e => h0.e2 (by rwa [getD_set_ne true (by decide)] at e)
  e3 := fun e => h0.e3 (by rwa [getD_set_ne true (by decide)] at e)
  e4 := fun e => h0.e4 (by rwa [getD_set_ne true (by decide)] at e)
  e5 := fun e => h0.e5 (by rwa [getD_set_ne true (by decide)] at e)
  e6 := fun _ => hv
  e7 := fun e => h0.e7 (by rwa [getD_set_ne true (by decide)] at e)
  e8 := fun e => h0.e8 (by rwa [getD_set_ne true (by decide)] at e)
  e9 := fun e => h0.e9 (by rwa [getD_set_ne true (by decide)] at e)
  e10 := fun e => h0.e10 (by rwa [getD_set_ne true (by decide)] at e)
  e11 := fun e => h0.e11 (by rwa [getD_set_ne true (by decide)] at e)
  e12 := fun e => h0.e12 (by rwa [getD_set_ne true (by decide)] at e)
  e13 := fun e => h0.e13 (by rwa [getD_set_ne true (by decide)] at e)
  e14 := fun e => h0.e14 (by rwa [getD_set_ne true (by decide)] at e)
  e15 := fun e => h0.e15 (by rwa [getD_set_ne true (by decide)] at e)
  e16 := fun e => h0.e16 (by rwa [getD_set_ne true (by decide)] at e)
  e17 := fun e => h0.e17 (by rwa [getD_set_ne true (by decide)] at e)
theorem I15.up7 {W1 : World} {gp gb : Nat} {p : Pt} {up h m : Int} {L : Array Bool} {s21 s87 s88 s89 s90 s91 s92 s93 s94 s95 s96 s97 s98 s99 s100 s101 s102 s103 s104 v : Value} {W : World} (h0 : I15 W1 gp gb p up h m L s21 s87 s88 s89 s90 s91 s92 s93 s94 s95 s96 s97 s98 s99 s100 s101 s102 s103 s104 W) (hv : v = .int .i64 up) : I15 W1 gp gb p up h m (L.setIfInBounds 7 true) s21 s87 s88 s89 s90 s91 s92 s93 v s95 s96 s97 s98 s99 s100 s101 s102 s103 s104 W where
  below := h0.below
  rA := fun e => let ⟨g, h1, h2, c0, c1, c2, hb, hc⟩ := h0.rA (by rwa [getD_set_ne true (by decide)] at e); ⟨g, h1, h2, c0, c1, c2, hb, fun e2 => hc (by rwa [getD_set_ne true (by decide)] at e2)⟩
  c19 := fun e => by rw [getD_set_ne true (by decide)] at e ⊢; exact h0.c19 e
  e0 := fun e => h0.e0 (by rwa [getD_set_ne true (by decide)] at e)
  e1 := fun e => h0.e1 (by rwa [getD_set_ne true (by decide)] at e)
  e2 := fun e => h0.e2 (by rwa [getD_set_ne true (by decide)] at e)
  e3 := fun e => h0.e3 (by rwa [getD_set_ne true (by decide)] at e)
  e4 := fun e => h0.e4 (by rwa [getD_set_ne true (by decide)] at e)
  e5 := fun e => h0.e5 (by rwa [getD_set_ne true (by decide)] at e)
  e6 := fun e => h0.e6 (by rwa [getD_set_ne true (by decide)] at e)
  e7 := fun _ => hv
  e8 := fun e => h0.e8 (by rwa [getD_set_ne true (by decide)] at e)
  e9 := fun e => h0.e9 (by rwa [getD_set_ne true (by decide)] at e)
  e10 := fun e => h0.e10 (by rwa [getD_set_ne true (by decide)] at e)
  e11 := fun e => h0.e11 (by rwa [getD_set_ne true (by decide)] at e)
  e12 := fun e => h0.e12 (by rwa [getD_set_ne true (by decide)] at e)
  e13 := fun e => h0.e13 (by rwa [getD_set_ne true (by decide)] at e)
  e14 := fun e => h0.e14 (by rwa [getD_set_ne true (by decide)] at e)
  e15 := fun e => h0.e15 (by rwa [getD_set_ne true (by decide)] at e)
  e16 := fun e => h0.e16 (by rwa [getD_set_ne true (by decide)] at e)
  e17 := fun e => h0.e17 (by rwa [getD_set_ne true (by decide)] at e)
theorem I15.up8 {W1 : World} {gp gb : Nat} {p : Pt} {up h m : Int} {L : Array Bool} {s21 s87 s88 s89 s90 s91 s92 s93 s94 s95 s96 s97 s98 s99 s100 s101 s102 s103 s104 v : Value} {W : World} (h0 : I15 W1 gp gb p up h m L s21 s87 s88 s89 s90 s91 s92 s93 s94 s95 s96 s97 s98 s99 s100 s101 s102 s103 s104 W) (hv : v = .pointer (some ⟨gb, 3, none⟩)) : I15 W1 gp gb p up h m (L.setIfInBounds 8 true) s21 s87 s88 s89 s90 s91 s92 s93 s94 v s96 s97 s98 s99 s100 s101 s102 s103 s104 W where
  below := h0.below
  rA := fun e => let ⟨g, h1, h2, c0, c1, c2, hb, hc⟩ := h0.rA (by rwa [getD_set_ne true (by decide)] at e); ⟨g, h1, h2, c0, c1, c2, hb, fun e2 => hc (by rwa [getD_set_ne true (by decide)] at e2)⟩
  c19 := fun e => by rw [getD_set_ne true (by decide)] at e ⊢; exact h0.c19 e
  e0 := fun e => h0.e0 (by rwa [getD_set_ne true (by decide)] at e)
  e1 := fun e => h0.e1 (by rwa [getD_set_ne true (by decide)] at e)
  e2 := fun e => h0.e2 (by rwa [getD_set_ne true (by decide)] at e)
  e3 := fun e => h0.e3 (by rwa [getD_set_ne true (by decide)] at e)
  e4 := fun e => h0.e4 (by rwa [getD_set_ne true (by decide)] at e)
  e5 := fun e => h0.e5 (by rwa [getD_set_ne true (by decide)] at e)
  e6 := fun e => h0.e6 (by rwa [getD_set_ne true (by decide)] at e)
  e7 := fun e => h0.e7 (by rwa [getD_set_ne true (by decide)] at e)
  e8 := fun _ => hv
  e9 := fun e => h0.e9 (by rwa [getD_set_ne true (by decide)] at e)
  e10 := fun e => h0.e10 (by rwa [getD_set_ne true (by decide)] at e)
  e11 := fun e => h0.e11 (by rwa [getD_set_ne true (by decide)] at e)
  e12 := fun e => h0.e12 (by rwa [getD_set_ne true (by decide)] at e)
  e13 := fun e => h0.e13 (by rwa [getD_set_ne true (by decide)] at e)
  e14 := fun e => h0.e14 (by rwa [getD_set_ne true (by decide)] at e)
  e15 := fun e => h0.e15 (by rwa [getD_set_ne true (by decide)] at e)
  e16 := fun e => h0.e16 (by rwa [getD_set_ne true (by decide)] at e)
  e17 := fun e => h0.e17 (by rwa [getD_set_ne true (by decide)] at e)
theorem I15.up9 {W1 : World} {gp gb : Nat} {p : Pt} {up h m : Int} {L : Array Bool} {s21 s87 s88 s89 s90 s91 s92 s93 s94 s95 s96 s97 s98 s99 s100 s101 s102 s103 s104 v : Value} {W : World} (h0 : I15 W1 gp gb p up h m L s21 s87 s88 s89 s90 s91 s92 s93 s94 s95 s96 s97 s98 s99 s100 s101 s102 s103 s104 W) (hv : v = .pointer (some ⟨gb, 5, none⟩)) : I15 W1 gp gb p up h m (L.setIfInBounds 9 true) s21 s87 s88 s89 s90 s91 s92 s93 s94 s95 v s97 s98 s99 s100 s101 s102 s103 s104 W where
  below := h0.below
  rA := fun e => let ⟨g, h1, h2, c0, c1, c2, hb, hc⟩ := h0.rA (by rwa [getD_set_ne true (by decide)] at e); ⟨g, h1, h2, c0, c1, c2, hb, fun e2 => hc (by rwa [getD_set_ne true (by decide)] at e2)⟩
  c19 := fun e => by rw [getD_set_ne true (by decide)] at e ⊢; exact h0.c19 e
  e0 := fun e => h0.e0 (by rwa [getD_set_ne true (by decide)] at e)
  e1 := fun e => h0.e1 (by rwa [getD_set_ne true (by decide)] at e)
  e2 := fun e => h0.e2 (by rwa [getD_set_ne true (by decide)] at e)
  e3 := fun e => h0.e3 (by rwa [getD_set_ne true (by decide)] at e)
  e4 := fun e => h0.e4 (by rwa [getD_set_ne true (by decide)] at e)
  e5 := fun e => h0.e5 (by rwa [getD_set_ne true (by decide)] at e)
  e6 := fun e => h0.e6 (by rwa [getD_set_ne true (by decide)] at e)
  e7 := fun e => h0.e7 (by rwa [getD_set_ne true (by decide)] at e)
  e8 := fun e => h0.e8 (by rwa [getD_set_ne true (by decide)] at e)
  e9 := fun _ => hv
  e10 := fun e => h0.e10 (by rwa [getD_set_ne true (by decide)] at e)
  e11 := fun e => h0.e11 (by rwa [getD_set_ne true (by decide)] at e)
  e12 := fun e => h0.e12 (by rwa [getD_set_ne true (by decide)] at e)
  e13 := fun e => h0.e13 (by rwa [getD_set_ne true (by decide)] at e)
  e14 := fun e => h0.e14 (by rwa [getD_set_ne true (by decide)] at e)
  e15 := fun e => h0.e15 (by rwa [getD_set_ne true (by decide)] at e)
  e16 := fun e => h0.e16 (by rwa [getD_set_ne true (by decide)] at e)
  e17 := fun e => h0.e17 (by rwa [getD_set_ne true (by decide)] at e)
theorem I15.up10 {W1 : World} {gp gb : Nat} {p : Pt} {up h m : Int} {L : Array Bool} {s21 s87 s88 s89 s90 s91 s92 s93 s94 s95 s96 s97 s98 s99 s100 s101 s102 s103 s104 v : Value} {W : World} (h0 : I15 W1 gp gb p up h m L s21 s87 s88 s89 s90 s91 s92 s93 s94 s95 s96 s97 s98 s99 s100 s101 s102 s103 s104 W) (hv : v = .int .i64 h) : I15 W1 gp gb p up h m (L.setIfInBounds 10 true) s21 s87 s88 s89 s90 s91 s92 s93 s94 s95 s96 v s98 s99 s100 s101 s102 s103 s104 W where
  below := h0.below
  rA := fun e => let ⟨g, h1, h2, c0, c1, c2, hb, hc⟩ := h0.rA (by rwa [getD_set_ne true (by decide)] at e); ⟨g, h1, h2, c0, c1, c2, hb, fun e2 => hc (by rwa [getD_set_ne true (by decide)] at e2)⟩
  c19 := fun e => by rw [getD_set_ne true (by decide)] at e ⊢; exact h0.c19 e
  e0 := fun e => h0.e0 (by rwa [getD_set_ne true (by decide)] at e)
  e1 := fun e => h0.e1 (by rwa [getD_set_ne true (by decide)] at e)
  e2 := fun e => h0.e2 (by rwa [getD_set_ne true (by decide)] at e)
  e3 := fun e => h0.e3 (by rwa [getD_set_ne true (by decide)] at e)
  e4 := fun e => h0.e4 (by rwa [getD_set_ne true (by decide)] at e)
  e5 := fun e => h0.e5 (by rwa [getD_set_ne true (by decide)] at e)
  e6 := fun e => h0.e6 (by rwa [getD_set_ne true (by decide)] at e)
  e7 := fun e => h0.e7 (by rwa [getD_set_ne true (by decide)] at e)
  e8 := fun e => h0.e8 (by rwa [getD_set_ne true (by decide)] at e)
  e9 := fun e => h0.e9 (by rwa [getD_set_ne true (by decide)] at e)
  e10 := fun _ => hv
  e11 := fun e => h0.e11 (by rwa [getD_set_ne true (by decide)] at e)
  e12 := fun e => h0.e12 (by rwa [getD_set_ne true (by decide)] at e)
  e13 := fun e => h0.e13 (by rwa [getD_set_ne true (by decide)] at e)
  e14 := fun e => h0.e14 (by rwa [getD_set_ne true (by decide)] at e)
  e15 := fun e => h0.e15 (by rwa [getD_set_ne true (by decide)] at e)
  e16 := fun e => h0.e16 (by rwa [getD_set_ne true (by decide)] at e)
  e17 := fun e => h0.e17 (by rwa [getD_set_ne true (by decide)] at e)
theorem I15.up11 {W1 : World} {gp gb : Nat} {p : Pt} {up h m : Int} {L : Array Bool} {s21 s87 s88 s89 s90 s91 s92 s93 s94 s95 s96 s97 s98 s99 s100 s101 s102 s103 s104 v : Value} {W : World} (h0 : I15 W1 gp gb p up h m L s21 s87 s88 s89 s90 s91 s92 s93 s94 s95 s96 s97 s98 s99 s100 s101 s102 s103 s104 W) (hv : v = .pointer (some ⟨gp, 2, none⟩)) : I15 W1 gp gb p up h m (L.setIfInBounds 11 true) s21 s87 s88 s89 s90 s91 s92 s93 s94 s95 s96 s97 v s99 s100 s101 s102 s103 s104 W where
  below := h0.below
  rA := fun e => let ⟨g, h1, h2, c0, c1, c2, hb, hc⟩ := h0.rA (by rwa [getD_set_ne true (by decide)] at e); ⟨g, h1, h2, c0, c1, c2, hb, fun e2 => hc (by rwa [getD_set_ne true (by decide)] at e2)⟩
  c19 := fun e => by rw [getD_set_ne true (by decide)] at e ⊢; exact h0.c19 e
  e0 := fun e => h0.e0 (by rwa [getD_set_ne true (by decide)] at e)
  e1 := fun e => h0.e1 (by rwa [getD_set_ne true (by decide)] at e)
  e2 := fun e => h0.e2 (by rwa [getD_set_ne true (by decide)] at e)
  e3 := fun e => h0.e3 (by rwa [getD_set_ne true (by decide)] at e)
  e4 := fun e => h0.e4 (by rwa [getD_set_ne true (by decide)] at e)
  e5 := fun e => h0.e5 (by rwa [getD_set_ne true (by decide)] at e)
  e6 := fun e => h0.e6 (by rwa [getD_set_ne true (by decide)] at e)
  e7 := fun e => h0.e7 (by rwa [getD_set_ne true (by decide)] at e)
  e8 := fun e => h0.e8 (by rwa [getD_set_ne true (by decide)] at e)
  e9 := fun e => h0.e9 (by rwa [getD_set_ne true (by decide)] at e)
  e10 := fun e => h0.e10 (by rwa [getD_set_ne true (by decide)] at e)
  e11 := fun _ => hv
  e12 := fun e => h0.e12 (by rwa [getD_set_ne true (by decide)] at e)
  e13 := fun e => h0.e13 (by rwa [getD_set_ne true (by decide)] at e)
  e14 := fun e => h0.e14 (by rwa [getD_set_ne true (by decide)] at e)
  e15 := fun e => h0.e15 (by rwa [getD_set_ne true (by decide)] at e)
  e16 := fun e => h0.e16 (by rwa [getD_set_ne true (by decide)] at e)
  e17 := fun e => h0.e17 (by rwa [getD_set_ne true (by decide)] at e)
theorem I15.up12 {W1 : World} {gp gb : Nat} {p : Pt} {up h m : Int} {L : Array Bool} {s21 s87 s88 s89 s90 s91 s92 s93 s94 s95 s96 s97 s98 s99 s100 s101 s102 s103 s104 v : Value} {W : World} (h0 : I15 W1 gp gb p up h m L s21 s87 s88 s89 s90 s91 s92 s93 s94 s95 s96 s97 s98 s99 s100 s101 s102 s103 s104 W) (hv : v = .int .i64 p.z) : I15 W1 gp gb p up h m (L.setIfInBounds 12 true) s21 s87 s88 s89 s90 s91 s92 s93 s94 s95 s96 s97 s98 v s100 s101 s102 s103 s104 W where
  below := h0.below
  rA := fun e => let ⟨g, h1, h2, c0, c1, c2, hb, hc⟩ := h0.rA (by rwa [getD_set_ne true (by decide)] at e); ⟨g, h1, h2, c0, c1, c2, hb, fun e2 => hc (by rwa [getD_set_ne true (by decide)] at e2)⟩
  c19 := fun e => by rw [getD_set_ne true (by decide)] at e ⊢; exact h0.c19 e
  e0 := fun e => h0.e0 (by rwa [getD_set_ne true (by decide)] at e)
  e1 := fun e => h0.e1 (by rwa [getD_set_ne true (by decide)] at e)
  e2 := fun e => h0.e2 (by rwa [getD_set_ne true (by decide)] at e)
  e3 := fun e => h0.e3 (by rwa [getD_set_ne true (by decide)] at e)
  e4 := fun e => h0.e4 (by rwa [getD_set_ne true (by decide)] at e)
  e5 := fun e => h0.e5 (by rwa [getD_set_ne true (by decide)] at e)
  e6 := fun e => h0.e6 (by rwa [getD_set_ne true (by decide)] at e)
  e7 := fun e => h0.e7 (by rwa [getD_set_ne true (by decide)] at e)
  e8 := fun e => h0.e8 (by rwa [getD_set_ne true (by decide)] at e)
  e9 := fun e => h0.e9 (by rwa [getD_set_ne true (by decide)] at e)
  e10 := fun e => h0.e10 (by rwa [getD_set_ne true (by decide)] at e)
  e11 := fun e => h0.e11 (by rwa [getD_set_ne true (by decide)] at e)
  e12 := fun _ => hv
  e13 := fun e => h0.e13 (by rwa [getD_set_ne true (by decide)] at e)
  e14 := fun e => h0.e14 (by rwa [getD_set_ne true (by decide)] at e)
  e15 := fun e => h0.e15 (by rwa [getD_set_ne true (by decide)] at e)
  e16 := fun e => h0.e16 (by rwa [getD_set_ne true (by decide)] at e)
  e17 := fun e => h0.e17 (by rwa [getD_set_ne true (by decide)] at e)
theorem I15.up13 {W1 : World} {gp gb : Nat} {p : Pt} {up h m : Int} {L : Array Bool} {s21 s87 s88 s89 s90 s91 s92 s93 s94 s95 s96 s97 s98 s99 s100 s101 s102 s103 s104 v : Value} {W : World} (h0 : I15 W1 gp gb p up h m L s21 s87 s88 s89 s90 s91 s92 s93 s94 s95 s96 s97 s98 s99 s100 s101 s102 s103 s104 W) (hv : v = .int .i64 (h - p.z)) : I15 W1 gp gb p up h m (L.setIfInBounds 13 true) s21 s87 s88 s89 s90 s91 s92 s93 s94 s95 s96 s97 s98 s99 v s101 s102 s103 s104 W where
  below := h0.below
  rA := fun e => let ⟨g, h1, h2, c0, c1, c2, hb, hc⟩ := h0.rA (by rwa [getD_set_ne true (by decide)] at e); ⟨g, h1, h2, c0, c1, c2, hb, fun e2 => hc (by rwa [getD_set_ne true (by decide)] at e2)⟩
  c19 := fun e => by rw [getD_set_ne true (by decide)] at e ⊢; exact h0.c19 e
  e0 := fun e => h0.e0 (by rwa [getD_set_ne true (by decide)] at e)
  e1 := fun e => h0.e1 (by rwa [getD_set_ne true (by decide)] at e)
  e2 := fun e => h0.e2 (by rwa [getD_set_ne true (by decide)] at e)
  e3 := fun e => h0.e3 (by rwa [getD_set_ne true (by decide)] at e)
  e4 := fun e => h0.e4 (by rwa [getD_set_ne true (by decide)] at e)
  e5 := fun e => h0.e5 (by rwa [getD_set_ne true (by decide)] at e)
  e6 := fun e => h0.e6 (by rwa [getD_set_ne true (by decide)] at e)
  e7 := fun e => h0.e7 (by rwa [getD_set_ne true (by decide)] at e)
  e8 := fun e => h0.e8 (by rwa [getD_set_ne true (by decide)] at e)
  e9 := fun e => h0.e9 (by rwa [getD_set_ne true (by decide)] at e)
  e10 := fun e => h0.e10 (by rwa [getD_set_ne true (by decide)] at e)
  e11 := fun e => h0.e11 (by rwa [getD_set_ne true (by decide)] at e)
  e12 := fun e => h0.e12 (by rwa [getD_set_ne true (by decide)] at e)
  e13 := fun _ => hv
  e14 := fun e => h0.e14 (by rwa [getD_set_ne true (by decide)] at e)
  e15 := fun e => h0.e15 (by rwa [getD_set_ne true (by decide)] at e)
  e16 := fun e => h0.e16 (by rwa [getD_set_ne true (by decide)] at e)
  e17 := fun e => h0.e17 (by rwa [getD_set_ne true (by decide)] at e)
theorem I15.up14 {W1 : World} {gp gb : Nat} {p : Pt} {up h m : Int} {L : Array Bool} {s21 s87 s88 s89 s90 s91 s92 s93 s94 s95 s96 s97 s98 s99 s100 s101 s102 s103 s104 v : Value} {W : World} (h0 : I15 W1 gp gb p up h m L s21 s87 s88 s89 s90 s91 s92 s93 s94 s95 s96 s97 s98 s99 s100 s101 s102 s103 s104 W) (hv : v = .int .i64 (h - p.z + 1)) : I15 W1 gp gb p up h m (L.setIfInBounds 14 true) s21 s87 s88 s89 s90 s91 s92 s93 s94 s95 s96 s97 s98 s99 s100 v s102 s103 s104 W where
  below := h0.below
  rA := fun e => let ⟨g, h1, h2, c0, c1, c2, hb, hc⟩ := h0.rA (by rwa [getD_set_ne true (by decide)] at e); ⟨g, h1, h2, c0, c1, c2, hb, fun e2 => hc (by rwa [getD_set_ne true (by decide)] at e2)⟩
  c19 := fun e => by rw [getD_set_ne true (by decide)] at e ⊢; exact h0.c19 e
  e0 := fun e => h0.e0 (by rwa [getD_set_ne true (by decide)] at e)
  e1 := fun e => h0.e1 (by rwa [getD_set_ne true (by decide)] at e)
  e2 := fun e => h0.e2 (by rwa [getD_set_ne true (by decide)] at e)
  e3 := fun e => h0.e3 (by rwa [getD_set_ne true (by decide)] at e)
  e4 := fun e => h0.e4 (by rwa [getD_set_ne true (by decide)] at e)
  e5 := fun e => h0.e5 (by rwa [getD_set_ne true (by decide)] at e)
  e6 := fun e => h0.e6 (by rwa [getD_set_ne true (by decide)] at e)
  e7 := fun e => h0.e7 (by rwa [getD_set_ne true (by decide)] at e)
  e8 := fun e => h0.e8 (by rwa [getD_set_ne true (by decide)] at e)
  e9 := fun e => h0.e9 (by rwa [getD_set_ne true (by decide)] at e)
  e10 := fun e => h0.e10 (by rwa [getD_set_ne true (by decide)] at e)
  e11 := fun e => h0.e11 (by rwa [getD_set_ne true (by decide)] at e)
  e12 := fun e => h0.e12 (by rwa [getD_set_ne true (by decide)] at e)
  e13 := fun e => h0.e13 (by rwa [getD_set_ne true (by decide)] at e)
  e14 := fun _ => hv
  e15 := fun e => h0.e15 (by rwa [getD_set_ne true (by decide)] at e)
  e16 := fun e => h0.e16 (by rwa [getD_set_ne true (by decide)] at e)
  e17 := fun e => h0.e17 (by rwa [getD_set_ne true (by decide)] at e)
theorem I15.up15 {W1 : World} {gp gb : Nat} {p : Pt} {up h m : Int} {L : Array Bool} {s21 s87 s88 s89 s90 s91 s92 s93 s94 s95 s96 s97 s98 s99 s100 s101 s102 s103 s104 v : Value} {W : World} (h0 : I15 W1 gp gb p up h m L s21 s87 s88 s89 s90 s91 s92 s93 s94 s95 s96 s97 s98 s99 s100 s101 s102 s103 s104 W) (hv : v = .int .i64 m) : I15 W1 gp gb p up h m (L.setIfInBounds 15 true) s21 s87 s88 s89 s90 s91 s92 s93 s94 s95 s96 s97 s98 s99 s100 s101 v s103 s104 W where
  below := h0.below
  rA := fun e => let ⟨g, h1, h2, c0, c1, c2, hb, hc⟩ := h0.rA (by rwa [getD_set_ne true (by decide)] at e); ⟨g, h1, h2, c0, c1, c2, hb, fun e2 => hc (by rwa [getD_set_ne true (by decide)] at e2)⟩
  c19 := fun e => by rw [getD_set_ne true (by decide)] at e ⊢; exact h0.c19 e
  e0 := fun e => h0.e0 (by rwa [getD_set_ne true (by decide)] at e)
  e1 := fun e => h0.e1 (by rwa [getD_set_ne true (by decide)] at e)
  e2 := fun e => h0.e2 (by rwa [getD_set_ne true (by decide)] at e)
  e3 := fun e => h0.e3 (by rwa [getD_set_ne true (by decide)] at e)
  e4 := fun e => h0.e4 (by rwa [getD_set_ne true (by decide)] at e)
  e5 := fun e => h0.e5 (by rwa [getD_set_ne true (by decide)] at e)
  e6 := fun e => h0.e6 (by rwa [getD_set_ne true (by decide)] at e)
  e7 := fun e => h0.e7 (by rwa [getD_set_ne true (by decide)] at e)
  e8 := fun e => h0.e8 (by rwa [getD_set_ne true (by decide)] at e)
  e9 := fun e => h0.e9 (by rwa [getD_set_ne true (by decide)] at e)
  e10 := fun e => h0.e10 (by rwa [getD_set_ne true (by decide)] at e)
  e11 := fun e => h0.e11 (by rwa [getD_set_ne true (by decide)] at e)
  e12 := fun e => h0.e12 (by rwa [getD_set_ne true (by decide)] at e)
  e13 := fun e => h0.e13 (by rwa [getD_set_ne true (by decide)] at e)
  e14 := fun e => h0.e14 (by rwa [getD_set_ne true (by decide)] at e)
  e15 := fun _ => hv
  e16 := fun e => h0.e16 (by rwa [getD_set_ne true (by decide)] at e)
  e17 := fun e => h0.e17 (by rwa [getD_set_ne true (by decide)] at e)
theorem I15.up16 {W1 : World} {gp gb : Nat} {p : Pt} {up h m : Int} {L : Array Bool} {s21 s87 s88 s89 s90 s91 s92 s93 s94 s95 s96 s97 s98 s99 s100 s101 s102 s103 s104 v : Value} {W : World} (h0 : I15 W1 gp gb p up h m L s21 s87 s88 s89 s90 s91 s92 s93 s94 s95 s96 s97 s98 s99 s100 s101 s102 s103 s104 W) (hv : v = .int .i64 (p.z + m)) : I15 W1 gp gb p up h m (L.setIfInBounds 16 true) s21 s87 s88 s89 s90 s91 s92 s93 s94 s95 s96 s97 s98 s99 s100 s101 s102 v s104 W where
  below := h0.below
  rA := fun e => let ⟨g, h1, h2, c0, c1, c2, hb, hc⟩ := h0.rA (by rwa [getD_set_ne true (by decide)] at e); ⟨g, h1, h2, c0, c1, c2, hb, fun e2 => hc (by rwa [getD_set_ne true (by decide)] at e2)⟩
  c19 := fun e => by rw [getD_set_ne true (by decide)] at e ⊢; exact h0.c19 e
  e0 := fun e => h0.e0 (by rwa [getD_set_ne true (by decide)] at e)
  e1 := fun e => h0.e1 (by rwa [getD_set_ne true (by decide)] at e)
  e2 := fun e => h0.e2 (by rwa [getD_set_ne true (by decide)] at e)
  e3 := fun e => h0.e3 (by rwa [getD_set_ne true (by decide)] at e)
  e4 := fun e => h0.e4 (by rwa [getD_set_ne true (by decide)] at e)
  e5 := fun e => h0.e5 (by rwa [getD_set_ne true (by decide)] at e)
  e6 := fun e => h0.e6 (by rwa [getD_set_ne true (by decide)] at e)
  e7 := fun e => h0.e7 (by rwa [getD_set_ne true (by decide)] at e)
  e8 := fun e => h0.e8 (by rwa [getD_set_ne true (by decide)] at e)
  e9 := fun e => h0.e9 (by rwa [getD_set_ne true (by decide)] at e)
  e10 := fun e => h0.e10 (by rwa [getD_set_ne true (by decide)] at e)
  e11 := fun e => h0.e11 (by rwa [getD_set_ne true (by decide)] at e)
  e12 := fun e => h0.e12 (by rwa [getD_set_ne true (by decide)] at e)
  e13 := fun e => h0.e13 (by rwa [getD_set_ne true (by decide)] at e)
  e14 := fun e => h0.e14 (by rwa [getD_set_ne true (by decide)] at e)
  e15 := fun e => h0.e15 (by rwa [getD_set_ne true (by decide)] at e)
  e16 := fun _ => hv
  e17 := fun e => h0.e17 (by rwa [getD_set_ne true (by decide)] at e)
theorem I15.up17 {W1 : World} {gp gb : Nat} {p : Pt} {up h m : Int} {L : Array Bool} {s21 s87 s88 s89 s90 s91 s92 s93 s94 s95 s96 s97 s98 s99 s100 s101 s102 s103 s104 v : Value} {W : World} (h0 : I15 W1 gp gb p up h m L s21 s87 s88 s89 s90 s91 s92 s93 s94 s95 s96 s97 s98 s99 s100 s101 s102 s103 s104 W) (hv : v = .agg #[.int .i64 p.x, .int .i64 p.y, .int .i64 (p.z + m)]) : I15 W1 gp gb p up h m (L.setIfInBounds 17 true) s21 s87 s88 s89 s90 s91 s92 s93 s94 s95 s96 s97 s98 s99 s100 s101 s102 s103 v W where
  below := h0.below
  rA := fun e => let ⟨g, h1, h2, c0, c1, c2, hb, hc⟩ := h0.rA (by rwa [getD_set_ne true (by decide)] at e); ⟨g, h1, h2, c0, c1, c2, hb, fun e2 => hc (by rwa [getD_set_ne true (by decide)] at e2)⟩
  c19 := fun e => by rw [getD_set_ne true (by decide)] at e ⊢; exact h0.c19 e
  e0 := fun e => h0.e0 (by rwa [getD_set_ne true (by decide)] at e)
  e1 := fun e => h0.e1 (by rwa [getD_set_ne true (by decide)] at e)
  e2 := fun e => h0.e2 (by rwa [getD_set_ne true (by decide)] at e)
  e3 := fun e => h0.e3 (by rwa [getD_set_ne true (by decide)] at e)
  e4 := fun e => h0.e4 (by rwa [getD_set_ne true (by decide)] at e)
  e5 := fun e => h0.e5 (by rwa [getD_set_ne true (by decide)] at e)
  e6 := fun e => h0.e6 (by rwa [getD_set_ne true (by decide)] at e)
  e7 := fun e => h0.e7 (by rwa [getD_set_ne true (by decide)] at e)
  e8 := fun e => h0.e8 (by rwa [getD_set_ne true (by decide)] at e)
  e9 := fun e => h0.e9 (by rwa [getD_set_ne true (by decide)] at e)
  e10 := fun e => h0.e10 (by rwa [getD_set_ne true (by decide)] at e)
  e11 := fun e => h0.e11 (by rwa [getD_set_ne true (by decide)] at e)
  e12 := fun e => h0.e12 (by rwa [getD_set_ne true (by decide)] at e)
  e13 := fun e => h0.e13 (by rwa [getD_set_ne true (by decide)] at e)
  e14 := fun e => h0.e14 (by rwa [getD_set_ne true (by decide)] at e)
  e15 := fun e => h0.e15 (by rwa [getD_set_ne true (by decide)] at e)
  e16 := fun e => h0.e16 (by rwa [getD_set_ne true (by decide)] at e)
  e17 := fun _ => hv
theorem I15.up18 {W1 : World} {gp gb : Nat} {p : Pt} {up h m : Int} {L : Array Bool} {s21 s87 s88 s89 s90 s91 s92 s93 s94 s95 s96 s97 s98 s99 s100 s101 s102 s103 s104 : Value} {W : World} (h0 : I15 W1 gp gb p up h m L s21 s87 s88 s89 s90 s91 s92 s93 s94 s95 s96 s97 s98 s99 s100 s101 s102 s103 s104 W) (c0 c1 c2 : Value) (h19 : ¬ L.getD 19 true = true) : I15 W1 gp gb p up h m (L.setIfInBounds 18 true) (.pointer (some ⟨W.heap.size, 0, none⟩)) s87 s88 s89 s90 s91 s92 s93 s94 s95 s96 s97 s98 s99 s100 s101 s102 s103 s104 (W.alloc (.cells #[c0, c1, c2] 30)) where
  below := grow_alloc _ h0.below
  rA := fun _ => ⟨W.heap.size, rfl, h0.below.size, c0, c1, c2, Blk.new _ _ _, fun e2 => absurd (by rwa [getD_set_ne true (by decide)] at e2) h19⟩
  c19 := fun _ => getD_set_self _ _
  e0 := fun e => h0.e0 (by rwa [getD_set_ne true (by decide)] at e)
  e1 := fun e => h0.e1 (by rwa [getD_set_ne true (by decide)] at e)
  e2 := fun e => h0.e2 (by rwa [getD_set_ne true (by decide)] at e)
  e3 := fun e => h0.e3 (by rwa [getD_set_ne true (by decide)] at e)
  e4 := fun e => h0.e4 (by rwa [getD_set_ne true (by decide)] at e)
  e5 := fun e => h0.e5 (by rwa [getD_set_ne true (by decide)] at e)
  e6 := fun e => h0.e6 (by rwa [getD_set_ne true (by decide)] at e)
  e7 := fun e => h0.e7 (by rwa [getD_set_ne true (by decide)] at e)
  e8 := fun e => h0.e8 (by rwa [getD_set_ne true (by decide)] at e)
  e9 := fun e => h0.e9 (by rwa [getD_set_ne true (by decide)] at e)
  e10 := fun e => h0.e10 (by rwa [getD_set_ne true (by decide)] at e)
  e11 := fun e => h0.e11 (by rwa [getD_set_ne true (by decide)] at e)
  e12 := fun e => h0.e12 (by rwa [getD_set_ne true (by decide)] at e)
  e13 := fun e => h0.e13 (by rwa [getD_set_ne true (by decide)] at e)
  e14 := fun e => h0.e14 (by rwa [getD_set_ne true (by decide)] at e)
  e15 := fun e => h0.e15 (by rwa [getD_set_ne true (by decide)] at e)
  e16 := fun e => h0.e16 (by rwa [getD_set_ne true (by decide)] at e)
  e17 := fun e => h0.e17 (by rwa [getD_set_ne true (by decide)] at e)
theorem I15.up19 {W1 : World} {gp gb : Nat} {p : Pt} {up h m : Int} {L : Array Bool} {s21 s87 s88 s89 s90 s91 s92 s93 s94 s95 s96 s97 s98 s99 s100 s101 s102 s103 s104 : Value} {W W' : World} (h0 : I15 W1 gp gb p up h m L s21 s87 s88 s89 s90 s91 s92 s93 s94 s95 s96 s97 s98 s99 s100 s101 s102 s103 s104 W) {g : Nat} (hs : s21 = .pointer (some ⟨g, 0, none⟩)) (hg : W1.heap.size ≤ g) (hb : Below W1.heap.size W1 W') (hk : Blk W' g #[.int .i64 p.x, .int .i64 p.y, .int .i64 (p.z + m)] 30) (h18 : L.getD 18 true = true) : I15 W1 gp gb p up h m (L.setIfInBounds 19 true) s21 s87 s88 s89 s90 s91 s92 s93 s94 s95 s96 s97 s98 s99 s100 s101 s102 s103 s104 W' where
  below := hb
  rA := fun _ => ⟨g, hs, hg, _, _, _, hk, fun _ => rfl⟩
  c19 := fun _ => by rw [getD_set_ne true (by decide)]; exact h18
  e0 := fun e => h0.e0 (by rwa [getD_set_ne true (by decide)] at e)
  e1 := fun e => h0.e1 (by rwa [getD_set_ne true (by decide)] at e)
  e2 := fun e => h0.e2 (by rwa [getD_set_ne true (by decide)] at e)
  e3 := fun e => h0.e3 (by rwa [getD_set_ne true (by decide)] at e)
  e4 := fun e => h0.e4 (by rwa [getD_set_ne true (by decide)] at e)
  e5 := fun e => h0.e5 (by rwa [getD_set_ne true (by decide)] at e)
  e6 := fun e => h0.e6 (by rwa [getD_set_ne true (by decide)] at e)
  e7 := fun e => h0.e7 (by rwa [getD_set_ne true (by decide)] at e)
  e8 := fun e => h0.e8 (by rwa [getD_set_ne true (by decide)] at e)
  e9 := fun e => h0.e9 (by rwa [getD_set_ne true (by decide)] at e)
  e10 := fun e => h0.e10 (by rwa [getD_set_ne true (by decide)] at e)
  e11 := fun e => h0.e11 (by rwa [getD_set_ne true (by decide)] at e)
  e12 := fun e => h0.e12 (by rwa [getD_set_ne true (by decide)] at e)
  e13 := fun e => h0.e13 (by rwa [getD_set_ne true (by decide)] at e)
  e14 := fun e => h0.e14 (by rwa [getD_set_ne true (by decide)] at e)
  e15 := fun e => h0.e15 (by rwa [getD_set_ne true (by decide)] at e)
  e16 := fun e => h0.e16 (by rwa [getD_set_ne true (by decide)] at e)
  e17 := fun e => h0.e17 (by rwa [getD_set_ne true (by decide)] at e)
def Inv15 (F : Value → Value → Value → Value → Value → Value → Value → Value → Value → Value → Value → Value → Value → Value → Value → Value → Value → Value → Value → Act) (W1 : World) (gp gb : Nat) (p : Pt) (up h m : Int) (L : Array Bool) (a : Act) (W : World) : Prop := ∃ s21 s87 s88 s89 s90 s91 s92 s93 s94 s95 s96 s97 s98 s99 s100 s101 s102 s103 s104, a = F s21 s87 s88 s89 s90 s91 s92 s93 s94 s95 s96 s97 s98 s99 s100 s101 s102 s103 s104 ∧ I15 W1 gp gb p up h m L s21 s87 s88 s89 s90 s91 s92 s93 s94 s95 s96 s97 s98 s99 s100 s101 s102 s103 s104 W

end Go.Proofs.YtmoechhfjmemaaaGreat

namespace Go.Proofs.YtmoechhfjmemaaaGreat
open Go.RowKit Go.Lib
set_option maxRecDepth 20000

theorem below_setCellsR {B : Nat} {a : World} (b : Nat) (hb : B ≤ b) : ∀ (vs : List Value) (o : Nat) {w : World}, Below B a w → Below B a (w.setCells b o vs)
  | [], _, _, h => h
  | v :: r, o, _, h => below_setCellsR b hb r (o + 1) (h.setCell (p := ⟨b, o, none⟩) hb v)

theorem run_clear_cellsR {P : Program} (w : World) (t e ty : TypeId) (z : Value) (n : Nat) (ht : P.underlying t = some (.slice e)) (hv : ∀ w, (zeroValue e).run P w = .ok z w) (cs : List Value) (hn : 0 < n) (hz : (Builtin.zeroCells z.cells n).toList = cs) (h1 : ∀ v ∈ cs, v.oneCell' = true) (b o c : Nat)
    (hc : w.there b o cs.length) :
    (Builtin.clear_ #[t] ty #[.slice (some ⟨b, o, none⟩) n c]).run P w = .ok (.tuple #[]) (w.setCells b o cs) := by
  have hst := run_storeCells_cells (P := P) b o cs 0 w (by simpa using fun j hj => (hc j hj).1) (by simpa using fun j hj => (hc j hj).2) h1
  simp only [Nat.add_zero] at hst
  obtain ⟨m, rfl⟩ : ∃ m, n = m + 1 := ⟨n - 1, by omega⟩
  simp [Builtin.clear_, run_underlying ht, hv, hz, hst]

theorem zero_run : (Builtin.zeroCells (.agg #[.string ⟨#[]⟩, .int .i64 0, .int .i64 0, .int .i64 0, .int .i64 0, .int .i64 0, .int .i64 0, .int .i64 0, .int .i64 0, .int .i64 0] : Value).cells 1).toList = [.string ⟨#[]⟩, .int .i64 0, .int .i64 0, .int .i64 0, .int .i64 0, .int .i64 0, .int .i64 0, .int .i64 0, .int .i64 0, .int .i64 0] := by kernel_rfl

/-- The runs that stand in cells that are known. -/
theorem runs_of_range {w : World} {g cap : Nat} {l : List Rn} (hm : ∀ r ∈ l, r.mark.size ≤ 9223372036854775807) (h : w.rangeAt g 0 (rnsCells l)) (hcap : l.length ≤ cap) (hcap2 : cap ≤ 9223372036854775807) : Runs w (.slice (some ⟨g, 0, none⟩) l.length cap) l := by
  refine ⟨some ⟨g, 0, none⟩, cap, rfl, hcap, hcap2, fun i hi => ⟨hm _ (List.getElem_mem hi), g, 0, rfl, RnAt.of_cells fun r hr => ?_⟩⟩
  rw [← rnsCells_get l i hi r hr]
  have hlt : i * 10 + r < (rnsCells l).length := by rw [rnsCells_length]; omega
  have := h (i * 10 + r) _ (List.getElem?_eq_getElem hlt)
  rw [List.getElem?_eq_getElem hlt]
  simpa [Nat.add_assoc] using this

set_option maxRecDepth 100000 in
set_option maxHeartbeats 2000000 in
theorem deleteRn_at (l : List Rn) (i m g cap : Nat) (hm : l.length = m + 1) (hi : i ≤ m) (hle : m + 1 ≤ cap) (_ : cap ≤ maxLen) (w : World) (hr : w.rangeAt g 0 (rnsCells l)) (ht : w.there g 0 ((m + 1) * 10)) :
    Calls Tryz.prog 28 #[.slice (some ⟨g, 0, none⟩) (m + 1) cap, .int .i64 i, .int .i64 ((i : Int) + 1)] w fun en w' => en = .returned (.slice (some ⟨g, 0, none⟩) m cap) ∧
      w' = (w.drew.setCells g (i * 10) (rnsCells (l.drop (i + 1)))).setCells g (m * 10) [.string ⟨#[]⟩, .int .i64 0, .int .i64 0, .int .i64 0, .int .i64 0, .int .i64 0, .int .i64 0, .int .i64 0, .int .i64 0, .int .i64 0] := by
  obtain ⟨i0, hi0, hz0, hz1, hz2⟩ := info_parts info_rn
  obtain ⟨news, hnews⟩ : ∃ news, news = rnsCells (l.drop (i + 1)) := ⟨_, rfl⟩
  have hlen : news.length = (m - i) * 10 := by rw [hnews, rnsCells_length, List.length_drop]; omega
  have hget : ∀ t, t < news.length → news[t]? = (rnsCells l)[(i + 1) * 10 + t]? := by
    intro t ht0
    have e2 : rnsCells l = rnsCells (l.take (i + 1)) ++ news := by rw [hnews, ← rnsCells_append, List.take_append_drop]
    rw [e2, List.getElem?_append_right (by rw [rnsCells_length, List.length_take]; omega), rnsCells_length, List.length_take, show (i + 1) * 10 + t - min (i + 1) l.length * 10 = t by omega]
  obtain ⟨A, hA, hsrc⟩ : ∃ A : Addr, (if cap = i + 1 then some (⟨g, 0, none⟩ : Addr) else some ⟨g, (i + 1) * 10, none⟩) = some A ∧ Hid (∀ t u, news[t]? = some u → w.drew.cell? (A.add t) = some u) := by
    by_cases hc : cap = i + 1
    · refine ⟨⟨g, 0, none⟩, by simp [hc], fun t u hu => ?_⟩
      have h0 : news.length = 0 := by rw [hlen]; omega
      rw [List.length_eq_zero_iff.1 h0] at hu
      simp at hu
    · refine ⟨⟨g, (i + 1) * 10, none⟩, by simp [hc], fun t u hu => ?_⟩
      have ht0 := (List.getElem?_eq_some_iff.1 hu).1
      rw [hget t ht0] at hu
      rw [Addr.add_mid]
      have := hr _ _ hu
      rwa [Nat.zero_add] at this
  have s1 := Lib.hid hlen
  have s2 : Hid (∀ u ∈ news, u.oneCell' = true) := by rw [hnews]; exact rnsCells_one _
  have s3 : Hid (∀ t, t < news.length → (w.drew.cell? ⟨g, 0 + i * 10 + t, none⟩).isSome = true ∧ w.drew.frozen? ⟨g, 0 + i * 10 + t, none⟩ = false) := by
    intro t ht0
    have := ht (i * 10 + t) (by omega)
    rw [Nat.zero_add] at this
    rw [Nat.zero_add]
    exact this
  obtain ⟨W1, hW1⟩ : ∃ W1, W1 = w.drew.setCells g (0 + i * 10) news := ⟨_, rfl⟩
  have hcl : ∀ ty, (Builtin.clear_ #[28] ty #[.slice (some ⟨g, m * 10, none⟩) 1 (cap - m)]).run Tryz.prog W1 = .ok (.tuple #[]) (W1.setCells g (m * 10) [.string ⟨#[]⟩, .int .i64 0, .int .i64 0, .int .i64 0, .int .i64 0, .int .i64 0, .int .i64 0, .int .i64 0, .int .i64 0, .int .i64 0]) := fun ty =>
    run_clear_cellsR W1 _ _ ty _ 1 Tryz.underlying28 Tryz.zeroValue58 _ (by decide) zero_run (by decide) g (m * 10) _ (by
      rw [hW1]
      refine World.there_setCells (fun j hj => ?_) _ _ _
      have hj6 : j < 10 := hj
      have := ht (m * 10 + j) (by omega)
      rw [Nat.zero_add] at this
      exact this)
  have hW : Hid (W1 = w.drew.setCells g (0 + i * 10) news) := hW1
  have HH := Lib.hid hnews
  have mixed : Tryz.prog.follows .mixedOrders = true := by kernel_rfl
  have hb1 : (0 : Int) ≤ (i : Int) + 1 := by omega
  have hb2 : (i : Int) ≤ (m : Int) := by omega
  have hic : i ≤ cap := by omega
  have hjc : i + 1 ≤ cap := by omega
  have hk : i + (m - i) = m := by omega
  clear hr ht hget hlen hnews hW1
  go_enter Tryz.func28, Tryz.ntmps28
  go_wp2_with fail
  go_region_law_o (refine step_append_room rfl (.tmp 22) (.tmp 25) 28 rfl 58 i0 10 Tryz.underlying28 hi0 hz1 g 0 i cap (by simp [Act.eval, Act.put]) A (m - i) (cap - (i + 1)) news (by simp [Act.eval, Act.put]) s1.out hsrc.out s2.out (by omega) s3.out ?_; rw [← hW.out])
  go_wp2
  go_ret
  refine ⟨rfl, ?_⟩
  rw [hW.out, HH.out, Nat.zero_add]

theorem deleteRn_c (l : List Rn) (hm0 : ∀ r ∈ l, r.mark.size ≤ 9223372036854775807) (i : Nat) (hi : i < l.length) (v : Value) (base : Nat) (w : World) (h : w.ownsRow base 58 10 v l.length (rnsCells l)) :
    Calls Tryz.prog 28 #[v, .int .i64 i, .int .i64 ((i : Int) + 1)] w fun en w' => ∃ v', en = .returned v' ∧ Runs w' v' (l.take i ++ l.drop (i + 1)) ∧ Below base w w' := by
  rcases h.2 with ⟨_, h0⟩ | ⟨g, cap, cur, rfl, hgb, hheap, hle, hcap, hsz, htake⟩
  · omega
  obtain ⟨m, hm⟩ : ∃ m, l.length = m + 1 := ⟨l.length - 1, by omega⟩
  have hr : w.rangeAt g 0 (rnsCells l) := fun j u hu => by rw [← Addr.add_mid]; exact h.cells rfl j u hu
  have ht : w.there g 0 ((m + 1) * 10) := fun j hj => by
    have hj2 : j < cur.size := by rw [hsz]; exact Nat.lt_of_lt_of_le hj (Nat.mul_le_mul_right _ (by omega))
    refine ⟨?_, frozen_of_row w g _ cur _ hheap⟩
    rw [Nat.zero_add, cell_of_row w g j cur _ _ hheap, Array.getElem?_eq_getElem hj2]; rfl
  rw [hm]
  refine (deleteRn_at l i m g cap hm (by omega) (by omega) hcap w hr ht).mono ?_
  rintro e w' ⟨rfl, rfl⟩
  have hl' : (l.take i ++ l.drop (i + 1)).length = m := by rw [List.length_append, List.length_take, List.length_drop]; omega
  have hn : (rnsCells (l.drop (i + 1))).length = (m - i) * 10 := by rw [rnsCells_length, List.length_drop]; omega
  refine ⟨_, rfl, ?_, below_setCellsR g hgb _ _ (below_setCellsR g hgb _ _ (Below.refl _ _).drew)⟩
  have key := runs_of_range (fun r hr => hm0 r (by rcases List.mem_append.1 hr with h | h; exact List.mem_of_mem_take h; exact List.mem_of_mem_drop h)) (w := (w.drew.setCells g (i * 10) (rnsCells (l.drop (i + 1)))).setCells g (m * 10) [.string ⟨#[]⟩, .int .i64 0, .int .i64 0, .int .i64 0, .int .i64 0, .int .i64 0, .int .i64 0, .int .i64 0, .int .i64 0, .int .i64 0]) (g := g) (cap := cap) (l := l.take i ++ l.drop (i + 1)) (by
    refine World.rangeAt_setCells_apart ?_ _ _ _ (.inr (.inl (by rw [rnsCells_length, hl']; omega)))
    have t1 : (w.drew.setCells g (i * 10) (rnsCells (l.drop (i + 1)))).rangeAt g 0 (rnsCells (l.take i)) := by
      refine World.rangeAt_setCells_apart ?_ _ _ _ (.inr (.inl (by rw [rnsCells_length, List.length_take]; omega)))
      intro j u hu
      refine hr j u ?_
      have e1 : rnsCells l = rnsCells (l.take i) ++ rnsCells (l.drop i) := by rw [← rnsCells_append, List.take_append_drop]
      rw [e1, List.getElem?_append_left (List.getElem?_eq_some_iff.1 hu).1]; exact hu
    have t2 : (w.drew.setCells g (i * 10) (rnsCells (l.drop (i + 1)))).rangeAt g (i * 10) (rnsCells (l.drop (i + 1))) := World.rangeAt_setCells_same _ _ _ _ (fun j hj => by
      have := ht (i * 10 + j) (by omega)
      rw [Nat.zero_add] at this
      exact this)
    intro j u hu
    rw [rnsCells_append] at hu
    have hti : (rnsCells (l.take i)).length = i * 10 := by rw [rnsCells_length, List.length_take]; omega
    by_cases hj : j < i * 10
    · rw [List.getElem?_append_left (by omega)] at hu
      exact t1 j u hu
    · rw [List.getElem?_append_right (by omega), hti] at hu
      have := t2 _ u hu
      rwa [show i * 10 + (j - i * 10) = 0 + j by omega] at this) (by omega) hcap
  rw [hl'] at key
  exact key

end Go.Proofs.YtmoechhfjmemaaaGreat

