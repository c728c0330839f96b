/- Fabrics: slices of them; fabric.within, fabric.Valid. -/
import Derived.Test.YtolcpkpfndnkbaaName
import Derived.Test.YtolcpkpfndnkbaaBoxE
import Derived.Test.YtolcpkpfndnkbaaOwn
import Derived.Test.YtolcpkpfndnkbaaTail
import Derived.Maps.OwnOps
import Derived.Maps.Views
import Derived.Carry
import Derived.StringKeys
import Derived.Deep.DeepCutAuto
namespace Go.Proofs.Ytolcpkpfndnkbaa
open Go.RowKit

structure Fb where
  name : ByteArray
  main : Int
  cross : Int
  length : Int
  width : Int
  mass : Int

def FbAt (w : World) (b off : Nat) (f : Fb) : Prop :=
  w.cell? ⟨b, off, none⟩ = some (.string f.name) ∧ w.cell? ⟨b, off + 1, none⟩ = some (.int .i64 f.main) ∧ w.cell? ⟨b, off + 2, none⟩ = some (.int .i64 f.cross) ∧
  w.cell? ⟨b, off + 3, none⟩ = some (.int .i64 f.length) ∧ w.cell? ⟨b, off + 4, none⟩ = some (.int .i64 f.width) ∧ w.cell? ⟨b, off + 5, none⟩ = some (.int .i64 f.mass)
/-- A slice value that reads as a list of fabrics; names are no longer than a string can be. -/
def Fabs (w : World) (v : Value) (l : List Fb) : Prop :=
  ∃ a cap, v = .slice a l.length cap ∧ l.length ≤ cap ∧ cap ≤ 9223372036854775807 ∧ ∀ i (h : i < l.length), l[i].name.size ≤ 9223372036854775807 ∧ ∃ b off, a = some ⟨b, off, none⟩ ∧ FbAt w b (off + i * 6) l[i]
theorem FbAt.ext {w : World} {b off : Nat} {f : Fb} (h : FbAt w b off f) (y : World) : FbAt (ext w y) b off f :=
  ⟨cell_ext_some h.1 y, cell_ext_some h.2.1 y, cell_ext_some h.2.2.1 y, cell_ext_some h.2.2.2.1 y, cell_ext_some h.2.2.2.2.1 y, cell_ext_some h.2.2.2.2.2 y⟩
theorem Fabs.below {w w' : World} {v : Value} {l : List Fb} (h : Fabs w v l) (hb : Below w.heap.size w w') : Fabs w' v l := by
  obtain ⟨x, rfl⟩ := ext_of hb
  obtain ⟨a, cap, h1, h2, h3, h4⟩ := h
  exact ⟨a, cap, h1, h2, h3, fun i hi => let ⟨hn, b, off, e, hb⟩ := h4 i hi; ⟨hn, b, off, e, hb.ext x⟩⟩
theorem Fabs.shape {w : World} {v : Value} {l : List Fb} (h : Fabs w v l) : ∃ a cap, v = .slice a l.length cap ∧ l.length ≤ cap ∧ cap ≤ 9223372036854775807 ∧
    ∀ i (h : i < l.length), l[i].name.size ≤ 9223372036854775807 ∧ ∃ b off, a = some ⟨b, off, none⟩ ∧ FbAt w b (off + i * 6) l[i] := h

def inI (n lo hi : Int) : Bool := decide (lo ≤ n) && decide (n ≤ hi)
theorem inI_iff {n lo hi : Int} : inI n lo hi = true ↔ lo ≤ n ∧ n ≤ hi := by unfold inI; simp
theorem inI_false {n lo hi : Int} (h : inI n lo hi = false) : n < lo ∨ hi < n := by
  rcases Int.lt_or_le n lo with h1 | h1
  · exact .inl h1
  · rcases Int.lt_or_le hi n with h2 | h2
    · exact .inr h2
    · rw [inI_iff.2 ⟨h1, h2⟩] at h; cases h

set_option maxHeartbeats 400000 in
theorem within_v (n lo hi : Int) (r : Bool) (h : inI n lo hi = r) (w : World) : Calls Try.prog 38 #[.int .i64 n, .int .i64 lo, .int .i64 hi] w (Ret w (.bool r)) := by
  cases r
  · rcases inI_false h with h1 | h1
    all_goals
      clear h
      go_enter Try.func38, Try.ntmps38
      go_wp2
      all_goals
        go_ret
        exact Ret.bool (by simp <;> omega) (by (repeat (first | exact grow_refl _ | refine grow_ext _ ?_ | refine grow_alloc _ ?_ | refine grow_drew ?_)))
  · have h1 := inI_iff.1 h
    clear h
    obtain ⟨h1, h2⟩ := h1
    go_enter Try.func38, Try.ntmps38
    go_wp2
    all_goals
      go_ret
      exact Ret.bool (by simp <;> omega) (by (repeat (first | exact grow_refl _ | refine grow_ext _ ?_ | refine grow_alloc _ ?_ | refine grow_drew ?_)))

theorem isName_v (s : ByteArray) (r : Bool) (h : nameB s = r) (hs : s.size ≤ 9223372036854775807) (w : World) : Calls Try.prog 50 #[.string s] w (Ret w (.bool r)) := by subst h; exact isName_c s hs w

/-- The fabric itself is right, whatever the others are called. -/
def fbOk (f : Fb) : Bool := nameB f.name && inI f.main 1 16777216 && inI f.cross 1 16777216 && inI f.length 1 20000 && inI f.width 1 20000 && inI f.mass 1 16777216
def seenB (l : List Fb) (f : Fb) : Bool := decide (f.name.data.toList ∈ l.map fun g => g.name.data.toList)
/-- The first k fabrics are right, and named differently. -/
def fabTo (l : List Fb) : Nat → Bool
  | 0 => true
  | k + 1 => fabTo l k && match l[k]? with
    | some f => fbOk f && !seenB (l.take k) f
    | none => true
def fabsB (l : List Fb) : Bool := decide (l.length ≤ 20) && fabTo l l.length
theorem fabTo_succ {l : List Fb} {k : Nat} (h : k < l.length) : fabTo l (k + 1) = (fabTo l k && (fbOk l[k] && !seenB (l.take k) l[k])) := by
  show (fabTo l k && match l[k]? with | some f => fbOk f && !seenB (l.take k) f | none => true) = _
  rw [List.getElem?_eq_getElem h]
theorem fabTo_false {l : List Fb} {k n : Nat} (h : k ≤ n) (hk : fabTo l k = false) : fabTo l n = false := by
  induction n with
  | zero => obtain rfl : k = 0 := by omega
            exact hk
  | succ n ih =>
    rcases Nat.lt_or_ge n k with h1 | h1
    · obtain rfl : k = n + 1 := by omega
      exact hk
    · show (fabTo l n && _) = false
      rw [ih h1]; rfl

theorem plainElem_bool_inv {P : Program} {e : TypeId} (he : P.underlying e = some .bool) {v : Value} {z : DataW Unit × List MemPlace} (h : plainElem P e v = some z) : ∃ c, v = .bool c ∧ z = (.lit (.bool c), []) := by
  unfold plainElem at h
  rw [he] at h
  cases v <;> simp at h
  exact ⟨_, rfl, h.symm⟩
/-- The map of the names that have been met. -/
def NamesMap (w : World) (b n : Nat) (l : List Fb) : Prop := ∃ D : DataW Unit, w.ownsMap Try.prog 9 (plainElem Try.prog 4) b n D ∧ Maps.IsMap D ∧ ∀ s : List UInt8, D.atKey (.string s) (.lit (.bool false)) = .lit (.bool (decide (s ∈ l.map fun g => g.name.data.toList)))
theorem zero_bool (w : World) : (zeroValue 4).run Try.prog w = .ok (.bool false) w := by kernel_rfl
theorem names_law : Maps.Keyed Try.prog 9 := Maps.string_keyed Try.underlying9
theorem NamesMap.ext {w : World} {b n : Nat} {l : List Fb} (h : NamesMap w b n l) (x : World) : NamesMap (ext w x) b n l := by
  obtain ⟨D, h1, h2, h3⟩ := h
  exact ⟨D, h1.kept (grownBy_ext w x none) (by simp), h2, h3⟩
theorem NamesMap.look {w : World} {b n : Nat} {l : List Fb} (h : NamesMap w b n l) (f : Fb) (hf : f.name.size ≤ 9223372036854775807) :
    (Instr.lookup 76 (.map (some b)) (.string f.name) false).run Try.prog w = .ok (.bool (seenB l f)) w := by
  obtain ⟨D, h1, h2, h3⟩ := h
  obtain ⟨v, ps, hrun, hv⟩ := h1.lookup names_law Try.underlying76 (zero_bool w) (plainElem_bool Try.underlying4 false) (WideMaps.keyOf_string_mk Try.underlying9 (by unfold maxLen; exact hf))
  rw [h3] at hv
  rw [hrun]
  obtain ⟨c, rfl, hc⟩ := plainElem_bool_inv Try.underlying4 hv
  simp only [Prod.mk.injEq, DataW.lit.injEq, Lit.bool.injEq] at hc
  rw [← hc.1]
  rfl
theorem bool_lit (l : List Fb) (f : Fb) (s : List UInt8) (h : s ≠ f.name.data.toList) : decide (s ∈ (l ++ [f]).map fun g => g.name.data.toList) = decide (s ∈ l.map fun g => g.name.data.toList) := by
  simp [h]

end Go.Proofs.Ytolcpkpfndnkbaa
