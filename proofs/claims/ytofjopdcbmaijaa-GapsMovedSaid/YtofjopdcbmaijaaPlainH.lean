/- Plain law of GapsMoved: the cuts of moved runs are the moved cuts. -/
import Derived.Test.YtofjopdcbmaijaaPlainG
import Derived.Test.YtofjopdcbmaijaaLaidP0
namespace Go.Proofs.Ytofjopdcbmaijaa

def movB (g : Pt) (b : Bx) : Bx := ⟨b.lx + g.x, b.ly + g.y, b.lz + g.z, b.hx + g.x, b.hy + g.y, b.hz + g.z⟩
def movP (g : Pt) (p : Pt) : Pt := ⟨p.x + g.x, p.y + g.y, p.z + g.z⟩
def movC (g : Pt) (c : Ct) : Ct := ⟨movB g c.box, c.size, c.mark⟩

theorem countS_mov (g : Pt) (rs : List Rn) : countS (rs.map (movR g)) = countS rs := by
  induction rs with
  | nil => rfl
  | cons r rs ih => simp only [List.map_cons, countS, ih]; rfl
theorem placeR_mov (g : Pt) (rs : List Rn) : ∀ i, placeR (rs.map (movR g)) i = (placeR rs i).map fun x => (movR g x.1, x.2) := by
  induction rs with
  | nil => intro i; rfl
  | cons r rs ih =>
    intro i
    simp only [List.map_cons, placeR]
    rw [show (movR g r).count = r.count from rfl]
    split
    · rfl
    · exact ih _
theorem markI_mov (g : Pt) (rs : List Rn) (i : Int) : markI (rs.map (movR g)) i = markI rs i := by
  unfold markI; rw [placeR_mov]
  cases placeR rs i <;> rfl
theorem sizeI_mov (g : Pt) (l : List Br) (rs : List Rn) (i : Int) : sizeI l (rs.map (movR g)) i = sizeI l rs i := by
  unfold sizeI; rw [markI_mov]
theorem laidL_mov (g : Pt) (b : Br) (r : Rn) (k : Int) : laidL b (movR g r) k = (laidL b r k).map (movP g) := by
  unfold laidL
  rw [List.map_map]
  apply List.map_congr_left
  intro p _
  unfold laidP movR movP
  simp only [Function.comp]
  congr 1 <;> omega
theorem pathI_mov (g : Pt) (l : List Br) (rs : List Rn) (i : Int) : pathI l (rs.map (movR g)) i = (pathI l rs i).map (movP g) := by
  unfold pathI; rw [placeR_mov]
  cases placeR rs i with
  | none => rfl
  | some x => exact laidL_mov g _ _ _
theorem legsP_mov (g : Pt) : ∀ l : List Pt, legsP (l.map (movP g)) = (legsP l).map (movB g)
  | [] => rfl
  | [_] => rfl
  | p :: q :: l => by
    have := legsP_mov g (q :: l)
    simp only [List.map_cons] at this
    simp only [List.map_cons, legsP, this]
    congr 1
    unfold legB movB movP
    congr 1 <;> simp only <;> omega
theorem legsI_mov (g : Pt) (l : List Br) (rs : List Rn) (i : Int) : legsI l (rs.map (movR g)) i = (legsI l rs i).map (movB g) := by
  unfold legsI; rw [pathI_mov, legsP_mov]
theorem alongB_mov (g : Pt) (x : Int) (b : Bx) : alongB (x + g.x) (movB g b) = alongB x b := by
  unfold alongB movB inI
  simp only
  rw [Bool.eq_iff_iff]
  simp only [Bool.and_eq_true, decide_eq_true_iff]
  omega
theorem cutOf_mov (g : Pt) (d : Int) (m : ByteArray) (x : Int) (b : Bx) : cutOf d m (x + g.x) (movB g b) = (cutOf d m x b).map (movC g) := by
  unfold cutOf
  rw [alongB_mov]
  split
  · simp only [Option.map_some]
    congr 1
    unfold movC cutBox movB
    simp only
    congr 2 <;> omega
  · rfl
theorem cutsAt_mov (g : Pt) (l : List Br) (rs : List Rn) (x : Int) (i : Nat) : cutsAt l (rs.map (movR g)) (x + g.x) i = (cutsAt l rs x i).map (movC g) := by
  unfold cutsAt
  rw [sizeI_mov, markI_mov, legsI_mov, List.filterMap_map, List.map_filterMap]
  congr 1
  funext b
  exact cutOf_mov g _ _ x b
theorem cutsTo_mov (g : Pt) (l : List Br) (rs : List Rn) (x : Int) (n : Nat) : cutsTo l (rs.map (movR g)) (x + g.x) n = (cutsTo l rs x n).map (movC g) := by
  induction n with
  | zero => rfl
  | succ n ih => rw [cutsTo_succ, cutsTo_succ, List.map_append, ih, cutsAt_mov]
theorem cutsI_mov (g : Pt) (l : List Br) (rs : List Rn) (x : Int) : cutsI l (rs.map (movR g)) (x + g.x) = (cutsI l rs x).map (movC g) := by
  unfold cutsI; rw [countS_mov, cutsTo_mov]
theorem gapB_mov (g : Pt) (a b : Bx) : gapB (movB g a) (movB g b) = gapB a b := by unfold gapB movB; simp only; omega
theorem getD_mov (g : Pt) (L : List Ct) (i : Nat) (h : i < L.length) : (L.map (movC g)).getD i noCt = movC g (L.getD i noCt) := by
  rw [List.getD, List.getD, List.getElem?_map, List.getElem?_eq_getElem h]; rfl
theorem gapK_mov (g : Pt) (L : List Ct) (i k : Nat) (hi : i < L.length) (hk : k < L.length) : gapK (L.map (movC g)) i k = gapK L i k := by
  unfold gapK; rw [getD_mov g L i hi, getD_mov g L k hk]; exact gapB_mov g _ _
theorem clrIn_mov (g : Pt) (L : List Ct) (i n : Nat) (b : Int) (hi : i < L.length) (hn : n ≤ L.length) : clrIn (L.map (movC g)) i n b = clrIn L i n b := by
  induction n with
  | zero => rfl
  | succ n ih => rw [clrIn_succ, clrIn_succ, ih (by omega), gapK_mov g L i n hi (by omega)]
theorem clrTo_mov (g : Pt) (L : List Ct) (n : Nat) (b : Int) (hn : n ≤ L.length) : clrTo (L.map (movC g)) n b = clrTo L n b := by
  induction n with
  | zero => rfl
  | succ n ih => rw [clrTo_succ, clrTo_succ, ih (by omega), clrIn_mov g L n n _ (by omega) (by omega)]
theorem clearI_mov (g : Pt) (L : List Ct) (h : 2 ≤ L.length) : clearI (L.map (movC g)) = clearI L := by
  unfold clearI
  rw [List.length_map, gapK_mov g L 0 1 (by omega) (by omega), clrTo_mov g L _ _ (Nat.le_refl _)]
theorem tooB_mov (g : Pt) (L : List Ct) (a : Int) (i k : Nat) (hi : i < L.length) (hk : k < L.length) : tooB (L.map (movC g)) a i k = tooB L a i k := by
  unfold tooB; rw [gapK_mov g L i k hi hk, getD_mov g L i hi, getD_mov g L k hk]; rfl
theorem nearTo_mov (g : Pt) (L : List Ct) (a : Int) (i n : Nat) (hi : i < L.length) (hn : n ≤ L.length) : nearTo (L.map (movC g)) a i n = nearTo L a i n := by
  induction n with
  | zero => rfl
  | succ n ih => rw [nearTo_succ, nearTo_succ, ih (by omega), tooB_mov g L a i n hi (by omega)]
theorem checkTo_mov (g : Pt) (L : List Ct) (a : Int) (n : Nat) (hn : n ≤ L.length) : checkTo (L.map (movC g)) a n = checkTo L a n := by
  induction n with
  | zero => rfl
  | succ n ih => rw [checkTo_succ, checkTo_succ, ih (by omega), List.length_map, nearTo_mov g L a n _ (by omega) (Nat.le_refl _), getD_mov g L n (by omega)]; rfl
theorem checkI_mov (g : Pt) (L : List Ct) (a : Int) : checkI (L.map (movC g)) a = checkI L a := by
  unfold checkI; rw [List.length_map]; exact checkTo_mov g L a _ (Nat.le_refl _)
theorem map_box_mov (g : Pt) (L : List Ct) : (L.map (movC g)).map Ct.box = (L.map Ct.box).map (movB g) := by
  rw [List.map_map, List.map_map]; rfl

end Go.Proofs.Ytofjopdcbmaijaa
