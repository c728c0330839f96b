/- GapD, GapE, GapF in one text. -/
import Derived.Test.YtmhhohancconaaaGreatGapC
import Derived.Test.YtmhhohancconaaaGreatExtK
import Derived.Test.YtmhhohancconaaaGreatFds
namespace Go.Proofs.YtmhhohancconaaaGreat
open Go.RowKit
set_option maxRecDepth 20000

theorem cutsE_err {l : List Br} {rs : List Rn} {x : Int} (h : (cutsE l rs x).2 ≠ 0) : (cutsE l rs x).1 = [] := by
  unfold cutsE at h ⊢
  split
  · rename_i h1; rw [if_pos h1] at h
    split
    · rename_i h2; rw [if_pos h2] at h; exact absurd rfl h
    · rfl
  · rfl
theorem cutsE_len (l : List Br) (rs : List Rn) (x : Int) : (cutsE l rs x).1.length ≤ 12000 := by
  unfold cutsE
  split
  · rename_i h
    split
    · have h1 := cutsTo_len l rs x (countS rs).toNat
      have h2 := count_le h rs.length
      show (cutsTo l rs x (countS rs).toNat).length ≤ _
      omega
    · exact Nat.zero_le _
  · exact Nat.zero_le _

end Go.Proofs.YtmhhohancconaaaGreat

namespace Go.Proofs.YtmhhohancconaaaGreat
open Go.RowKit
set_option maxRecDepth 20000

def noCt : Ct := ⟨⟨0, 0, 0, 0, 0, 0⟩, 0, ⟨#[]⟩⟩
def gapK (L : List Ct) (i k : Nat) : Int := gapB (L.getD i noCt).box (L.getD k noCt).box
def clrIn (L : List Ct) (i k : Nat) (b : Int) : Int := (List.range k).foldl (fun b k => min b (gapK L i k)) b
def clrTo (L : List Ct) (n : Nat) (b : Int) : Int := (List.range n).foldl (fun b i => clrIn L i i b) b
def clearI (L : List Ct) : Int := clrTo L L.length (gapK L 0 1)
theorem clrIn_succ (L : List Ct) (i k : Nat) (b : Int) : clrIn L i (k + 1) b = min (clrIn L i k b) (gapK L i k) := by
  unfold clrIn; rw [List.range_succ, List.foldl_append]; rfl
theorem clrTo_succ (L : List Ct) (n : Nat) (b : Int) : clrTo L (n + 1) b = clrIn L n n (clrTo L n b) := by
  unfold clrTo; rw [List.range_succ, List.foldl_append]; rfl
theorem cutsE_small {l : List Br} {rs : List Rn} {x : Int} : ∀ c ∈ (cutsE l rs x).1, SmallB c.box ∧ sizeB c.size = true := by
  unfold cutsE
  by_cases hv : laidB l rs = true
  · rw [if_pos hv]
    by_cases hx : inI x (-1048576) 1048576 = true
    · rw [if_pos hx]
      intro c hc
      have hc' : c ∈ cutsTo l rs x (countS rs).toNat := hc
      unfold cutsTo at hc'
      obtain ⟨i, hi, hci⟩ := List.mem_flatMap.1 hc'
      have hi := List.mem_range.1 hi
      have h0 := (count_le hv rs.length).1
      rw [List.take_length] at h0
      have h1 : (0 : Int) ≤ (i : Int) := by omega
      have h2 : (i : Int) < countS rs := by omega
      unfold cutsAt at hci
      obtain ⟨b, hb, hcb⟩ := List.mem_filterMap.1 hci
      have hbv := valid_iff.1 (legsI_valid hv h1 h2 b hb)
      have hsz := size_of hv h1 h2
      unfold cutOf at hcb
      split at hcb
      · cases hcb
        refine ⟨?_, hsz⟩
        have hd := size_iff.1 hsz
        have hh : 0 ≤ halfI (sizeI l rs i) ∧ halfI (sizeI l rs i) ≤ 20 := by unfold halfI; omega
        unfold SmallB cutBox; simp only; omega
      · cases hcb
    · rw [if_neg hx]; intro c hc; cases hc
  · rw [if_neg hv]; intro c hc; cases hc
theorem getD_lt {α : Type} {L : List α} {i : Nat} {z : α} (h : i < L.length) : L.getD i z = L[i] := by simp [List.getD, h]
theorem gapK_bound {L : List Ct} (h : ∀ c ∈ L, SmallB c.box) {i k : Nat} (hi : i < L.length) (hk : k < L.length) : -8000000 ≤ gapK L i k ∧ gapK L i k ≤ 8000000 := by
  unfold gapK
  rw [getD_lt hi, getD_lt hk]
  have h1 := h _ (List.getElem_mem hi)
  have h2 := h _ (List.getElem_mem hk)
  unfold SmallB at h1 h2
  unfold gapB; omega

def clearE (l : List Br) (rs : List Rn) (x : Int) : Int × Int := if (cutsE l rs x).2 = 0 then (if (cutsE l rs x).1.length < 2 then (0, 12) else (clearI (cutsE l rs x).1, 0)) else (0, (cutsE l rs x).2)

end Go.Proofs.YtmhhohancconaaaGreat

namespace Go.Proofs.YtmhhohancconaaaGreat
open Go.RowKit
set_option maxRecDepth 20000

def tooB (L : List Ct) (a : Int) (n k : Nat) : Bool := decide (n ≠ k) && decide (gapK L n k < leastI (max (L.getD n noCt).size (L.getD k noCt).size) a)
def nearTo (L : List Ct) (a : Int) (n k : Nat) : Bool := (List.range k).any (tooB L a n)
theorem nearTo_succ (L : List Ct) (a : Int) (n k : Nat) : nearTo L a n (k + 1) = (nearTo L a n k || tooB L a n k) := by
  unfold nearTo; rw [List.range_succ, List.any_append]; simp
def checkTo (L : List Ct) (a : Int) (n : Nat) : List ByteArray := (List.range n).filterMap fun i => if nearTo L a i L.length = true then some (L.getD i noCt).mark else none
theorem checkTo_succ (L : List Ct) (a : Int) (n : Nat) : checkTo L a (n + 1) = checkTo L a n ++ (if nearTo L a n L.length = true then [(L.getD n noCt).mark] else []) := by
  unfold checkTo; rw [List.range_succ, List.filterMap_append]
  split <;> simp_all
theorem checkTo_len (L : List Ct) (a : Int) (n : Nat) : (checkTo L a n).length ≤ n := by
  unfold checkTo
  have := List.length_filterMap_le (fun i => if nearTo L a i L.length = true then some (L.getD i noCt).mark else none) (List.range n)
  rwa [List.length_range] at this
def checkI (L : List Ct) (a : Int) : List ByteArray := checkTo L a L.length
def checkE (l : List Br) (rs : List Rn) (a x : Int) : List ByteArray × Int := if (cutsE l rs x).2 = 0 then (if inI a 1 100 = true then (checkI (cutsE l rs x).1 a, 0) else ([], 2)) else ([], (cutsE l rs x).2)
def ctArr (c : Ct) : Array Value := #[.int .i64 c.box.lx, .int .i64 c.box.ly, .int .i64 c.box.lz, .int .i64 c.box.hx, .int .i64 c.box.hy, .int .i64 c.box.hz, .int .i64 c.size, .string c.mark]

end Go.Proofs.YtmhhohancconaaaGreat

