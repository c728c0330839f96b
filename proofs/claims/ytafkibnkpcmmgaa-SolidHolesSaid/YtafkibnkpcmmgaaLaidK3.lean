/- LaidH, LaidI, LaidJ in one text. -/
import Derived.Test.YtafkibnkpcmmgaaLaidK2
import Derived.Deep.DeepCutAuto
namespace Go.Proofs.Ytafkibnkpcmmgaa
open Go.RowKit
set_option maxRecDepth 20000

def right1 (l : List Br) (r : Rn) : Bool := decide (0 ≤ findI l r.mark) && (turnB r.tx r.ty && (decide (1 ≤ r.count) && (decide (r.count ≤ 1000) && nearB ⟨r.ax, r.ay, r.az⟩ 1048576)))
def right2 (r : Rn) : Bool := decide (r.count ≤ 1) || (!(decide (r.sx = 0) && (decide (r.sy = 0) && decide (r.sz = 0))) && nearB ⟨r.sx, r.sy, r.sz⟩ 2097152)
theorem runB_eq (l : List Br) (r : Rn) : runB l r = (right1 l r && (right2 r && ((laidL (barOf l r.mark) r 0).all (fun p => nearB p 1048576) && (laidL (barOf l r.mark) r (r.count - 1)).all (fun p => nearB p 1048576)))) := by
  unfold runB rightR right1 right2
  simp only [Bool.and_assoc]

theorem bar_mem {l : List Br} {m : ByteArray} (h : 0 ≤ findI l m) : barOf l m ∈ l := by
  rcases findI_cases l m with ⟨e, _⟩ | ⟨k, hkl, e, _, _⟩
  · rw [e] at h; exact absurd h (by decide)
  · unfold barOf; rw [e]; simp [hkl]
/-- A turned point, laid. -/
def stepT (r : Rn) (k : Int) (t : Pt) : Pt := if 0 < k then plusP (plusP t ⟨r.ax, r.ay, r.az⟩ 1) ⟨r.sx, r.sy, r.sz⟩ k else plusP t ⟨r.ax, r.ay, r.az⟩ 1
theorem laidL_eq (b : Br) (r : Rn) {k : Int} (hk : 0 ≤ k) : laidL b r k = (turnedL b r).map (stepT r k) := by
  unfold laidL turnedL
  rw [List.map_map]
  apply List.map_congr_left
  intro p _
  unfold laidP stepT plusP
  simp only [Function.comp_apply]
  split
  · simp only [Int.one_mul]
  · obtain rfl : k = 0 := by omega
    simp only [Int.one_mul, Int.zero_mul, Int.add_zero]
theorem turnedL_near {b : Br} {r : Rn} (hs : shapeB b = true) (ht : turnB r.tx r.ty = true) : ∀ p ∈ turnedL b r, NearP p 1048576 := by
  intro p hp
  unfold turnedL at hp
  obtain ⟨q, hq, rfl⟩ := List.mem_map.1 hp
  exact img_near ht (path_near hs q hq)
theorem turnedL_len (b : Br) (r : Rn) : (turnedL b r).length ≤ 7 := by
  unfold turnedL; rw [List.length_map]; exact (path_len b).2
theorem take_near_succ {l : List Pt} {f : Pt → Pt} {k : Nat} (h : k < l.length) (h1 : ((l.take k).map f).all (fun p => nearB p 1048576) = true) (h2 : nearB (f l[k]) 1048576 = true) : ((l.take (k + 1)).map f).all (fun p => nearB p 1048576) = true := by
  rw [List.take_succ_eq_append_getElem h, List.map_append, List.all_append, h1]
  simpa using h2
theorem map_near_false {l : List Pt} {f : Pt → Pt} {k : Nat} (h : k < l.length) (h2 : nearB (f l[k]) 1048576 = false) : (l.map f).all (fun p => nearB p 1048576) = false := by
  rw [List.all_eq_false]
  exact ⟨f l[k], List.mem_map.2 ⟨_, List.getElem_mem h, rfl⟩, by rw [h2]; exact Bool.false_ne_true⟩

/-- The two numbers that laid.right looks at. -/
def ksN (count : Int) (j : Nat) : Int := if j = 0 then 0 else count - 1

theorem ks_false {T : List Pt} {f : Int → Pt → Pt} {count : Int} {q : Bool} (hq : (((T.map (f 0)).all fun p => nearB p 1048576) && ((T.map (f (count - 1))).all fun p => nearB p 1048576)) = q) {k : Nat} (hk : k < 2) (h : ((T.map (f (ksN count k))).all fun p => nearB p 1048576) = false) : false = q := by
  rcases (show k = 0 ∨ k = 1 by omega) with rfl | rfl
  · rw [show ksN count 0 = 0 from rfl] at h
    rw [← hq, h]; rfl
  · rw [show ksN count 1 = count - 1 from rfl] at h
    rw [← hq, h, Bool.and_false]
theorem ks_true {T : List Pt} {f : Int → Pt → Pt} {count : Int} {q : Bool} (hq : (((T.map (f 0)).all fun p => nearB p 1048576) && ((T.map (f (count - 1))).all fun p => nearB p 1048576)) = q) (h : ∀ j, j < 2 → ((T.map (f (ksN count j))).all fun p => nearB p 1048576) = true) : true = q := by
  have h0 := h 0 (by omega)
  have h1 := h 1 (by omega)
  rw [show ksN count 0 = 0 from rfl] at h0
  rw [show ksN count 1 = count - 1 from rfl] at h1
  rw [← hq, h0, h1]; rfl

def rnCells (r : Rn) : Array Value := #[.string r.mark, .int .i64 r.tx, .int .i64 r.ty, .int .i64 r.ax, .int .i64 r.ay, .int .i64 r.az, .int .i64 r.sx, .int .i64 r.sy, .int .i64 r.sz, .int .i64 r.count]

end Go.Proofs.Ytafkibnkpcmmgaa

namespace Go.Proofs.Ytafkibnkpcmmgaa
open Go.RowKit
set_option maxRecDepth 20000

def barOk (l : List Br) (i : Nat) : Bool := shapeB (l.getD i noBar) && decide (findI l (l.getD i noBar).mark = i)
theorem schedB_false {l : List Br} {k : Nat} (hk : k < l.length) (h : barOk l k = false) : schedB l = false := by
  unfold schedB
  rw [Bool.and_eq_false_iff]
  right
  rw [List.all_eq_false]
  exact ⟨k, List.mem_range.2 hk, by show ¬ barOk l k = true; rw [h]; exact Bool.false_ne_true⟩
theorem schedB_true {l : List Br} (h60 : l.length ≤ 60) (h : ∀ j, j < l.length → barOk l j = true) : schedB l = true := by
  unfold schedB
  rw [decide_eq_true h60, Bool.true_and, List.all_eq_true]
  exact fun j hj => h j (List.mem_range.1 hj)
theorem schedB_shape {l : List Br} (h : schedB l = true) : ∀ b ∈ l, shapeB b = true := by
  unfold schedB at h
  simp only [Bool.and_eq_true, List.all_eq_true, decide_eq_true_iff] at h
  intro b hb
  obtain ⟨j, hj, rfl⟩ := List.getElem_of_mem hb
  have := (h.2 j (List.mem_range.2 hj)).1
  rw [show l.getD j noBar = l[j] by simp [List.getD, hj]] at this
  exact this

theorem countS_append (a b : List Rn) : countS (a ++ b) = countS a + countS b := by
  induction a with
  | nil => simp [countS]
  | cons x a ih => simp only [List.cons_append, countS, ih]; omega
theorem runB_count {l : List Br} {r : Rn} (h : runB l r = true) : 1 ≤ r.count ∧ r.count ≤ 1000 := by
  unfold runB rightR at h
  simp only [Bool.and_eq_true, decide_eq_true_iff] at h
  exact ⟨h.2.2.1, h.2.2.2.1⟩
theorem countS_nonneg {l : List Br} {rs : List Rn} (h : ∀ r ∈ rs, runB l r = true) : 0 ≤ countS rs := by
  induction rs with
  | nil => exact Int.le_refl _
  | cons r rs ih =>
    have h1 := runB_count (h r List.mem_cons_self)
    have h2 := ih fun x hx => h x (List.mem_cons_of_mem _ hx)
    simp only [countS]; omega
theorem count_take {rs : List Rn} {k : Nat} (h : k < rs.length) : countS (rs.take (k + 1)) = countS (rs.take k) + rs[k].count := by
  rw [List.take_succ_eq_append_getElem h, countS_append]; simp [countS]
theorem laidB_run_false {l : List Br} {rs : List Rn} {k : Nat} (hk : k < rs.length) (h : runB l rs[k] = false) : laidB l rs = false := by
  have : rs.all (runB l) = false := by rw [List.all_eq_false]; exact ⟨_, List.getElem_mem hk, by rw [h]; exact Bool.false_ne_true⟩
  unfold laidB
  rw [this, Bool.false_and, Bool.and_false, Bool.and_false]
theorem laidB_count_false {l : List Br} {rs : List Rn} {k : Nat} (h : 2000 < countS (rs.take k)) : laidB l rs = false := by
  unfold laidB
  rw [Bool.eq_false_iff]
  intro hh
  simp only [Bool.and_eq_true, decide_eq_true_iff, List.all_eq_true] at hh
  have h1 := countS_nonneg (rs := rs.drop k) fun r hr => hh.2.2.1 r (List.mem_of_mem_drop hr)
  have h2 := countS_append (rs.take k) (rs.drop k)
  rw [List.take_append_drop] at h2
  omega
theorem laidB_true {l : List Br} {rs : List Rn} (hs : schedB l = true) (h60 : rs.length ≤ 60) (h : ∀ r ∈ rs, runB l r = true) (hc : countS rs ≤ 2000) : laidB l rs = true := by
  unfold laidB
  rw [hs, decide_eq_true h60, List.all_eq_true.2 h, decide_eq_true hc]; rfl

end Go.Proofs.Ytafkibnkpcmmgaa

namespace Go.Proofs.Ytafkibnkpcmmgaa
open Go.RowKit
set_option maxRecDepth 20000

/-- The run, and the number in it, of a laid bar. -/
def placeR : List Rn → Int → Option (Rn × Int)
  | [], _ => none
  | r :: l, i => if i < r.count then some (r, i) else placeR l (i - r.count)
def countE (bars : List Br) (rs : List Rn) : Int × Int := if laidB bars rs = true then (countS rs, 0) else (0, 1)
def markE (bars : List Br) (rs : List Rn) (i : Int) : ByteArray × Int :=
  if laidB bars rs = true then (if i < 0 then (⟨#[]⟩, 2) else match placeR rs i with | some (r, _) => (r.mark, 0) | none => (⟨#[]⟩, 2)) else (⟨#[]⟩, 1)
theorem laidB_iff {bars : List Br} {rs : List Rn} : laidB bars rs = true ↔ schedB bars = true ∧ rs.length ≤ 60 ∧ (∀ r ∈ rs, runB bars r = true) ∧ countS rs ≤ 2000 := by
  unfold laidB
  simp only [Bool.and_eq_true, decide_eq_true_iff, List.all_eq_true]
theorem count_le {bars : List Br} {rs : List Rn} (h : laidB bars rs = true) (k : Nat) : 0 ≤ countS (rs.take k) ∧ countS (rs.take k) ≤ countS rs ∧ countS rs ≤ 2000 := by
  obtain ⟨_, _, h3, h4⟩ := laidB_iff.1 h
  have h1 := countS_nonneg (rs := rs.take k) fun r hr => h3 r (List.mem_of_mem_take hr)
  have h2 := countS_nonneg (rs := rs.drop k) fun r hr => h3 r (List.mem_of_mem_drop hr)
  have h5 := countS_append (rs.take k) (rs.drop k)
  rw [List.take_append_drop] at h5
  omega

end Go.Proofs.Ytafkibnkpcmmgaa

