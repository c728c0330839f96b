/- PokP, PokA, PokB, PokC, PokD in one text. -/
import Derived.Test.YtmoechhfjmemaaaGreatBaseK
import Derived.Test.YtmoechhfjmemaaaGreatGapK1
import Derived.Test.YtmoechhfjmemaaaGreatGapK4
import Derived.Test.YtmoechhfjmemaaaGreatPlainK0
import Derived.Test.YtmoechhfjmemaaaGreatSolK
import Derived.Test.YtmoechhfjmemaaaGreatSolK4
import Derived.Test.YtmoechhfjmemaaaGreatExtK
import Derived.Test.YtmoechhfjmemaaaGreatSzMap
import Derived.Test.YtmoechhfjmemaaaGreatCovK0
import Derived.Deep.DeepCutAuto
namespace Go.Proofs.YtmoechhfjmemaaaGreat
open Go.RowKit
set_option maxRecDepth 20000

def okMb (q : Mb) : Bool := memberB q.name q.l q.m q.cover q.agg q.poker
/-- The legs of laid bars, each with the half of its size. -/
def rodsAt (l : List Br) (rs : List Rn) (i : Nat) : List Rc := (legsI l rs i).map fun b => ⟨b, halfI (sizeI l rs i)⟩
def rodsTo (l : List Br) (rs : List Rn) (n : Nat) : List Rc := (List.range n).flatMap (rodsAt l rs)
def rodsI (l : List Br) (rs : List Rn) : List Rc := rodsTo l rs (countS rs).toNat
theorem rodsTo_succ (l : List Br) (rs : List Rn) (n : Nat) : rodsTo l rs (n + 1) = rodsTo l rs n ++ rodsAt l rs n := by
  unfold rodsTo
  rw [List.range_succ, List.flatMap_append]; simp
theorem rodsAt_len (l : List Br) (rs : List Rn) (i : Nat) : (rodsAt l rs i).length ≤ 6 := by
  unfold rodsAt
  rw [List.length_map]
  have h2 := pathI_len l rs i
  have h3 : (legsI l rs i).length = (pathI l rs i).length - 1 := legsP_len _
  omega
theorem rodsTo_len (l : List Br) (rs : List Rn) (n : Nat) : (rodsTo l rs n).length ≤ 6 * n := by
  induction n with
  | zero => simp [rodsTo]
  | succ n ih =>
    rw [rodsTo_succ, List.length_append]
    have := rodsAt_len l rs n
    omega
/-- What is known of a rod. -/
def RodOk (r : Rc) : Prop := validB r.box = true ∧ 0 ≤ r.bar ∧ r.bar ≤ 20
theorem rods_ok {l : List Br} {rs : List Rn} (h : laidB l rs = true) : ∀ r ∈ rodsI l rs, RodOk r := by
  intro r hr
  unfold rodsI rodsTo at hr
  obtain ⟨i, hi, hr⟩ := List.mem_flatMap.1 hr
  have hi := List.mem_range.1 hi
  unfold rodsAt at hr
  obtain ⟨b, hb, rfl⟩ := List.mem_map.1 hr
  have hs := size_iff.1 (size_of h (i := (i : Int)) (by omega) (by omega))
  refine ⟨legsI_valid h (i := (i : Int)) (by omega) (by omega) b hb, ?_, ?_⟩ <;> (unfold halfI; simp only; omega)
def rodsE (l : List Br) (rs : List Rn) : List Rc × Int := if laidB l rs = true then (rodsI l rs, 0) else ([], 1)

def topI (q : Mb) : Int := (hullX q.l).hz
/-- The column of a tip. -/
def colX (q : Mb) (p : Pt) : Bx := ⟨p.x - (q.poker + 1) / 2, p.y - (q.poker + 1) / 2, p.z, p.x + (q.poker + 1) / 2, p.y + (q.poker + 1) / 2, topI q⟩
def tipB (q : Mb) (p : Pt) : Bool := nearB p 1048576 && decide (p.z ≤ topI q)
def columnE (q : Mb) (p : Pt) : Bx × Int := if okMb q = true then (if tipB q p = true then (colX q p, 0) else (zeroX, 2)) else (zeroX, 1)
def clearB (c : Bx) (R : List Rc) : Bool := R.all fun r => decide (r.bar ≤ gapI r.box c)
def freeR (q : Mb) (R : List Rc) (p : Pt) : Bool := validB (colX q p) && (containsS q.l q.m (colX q p) && clearB (colX q p) R)
def freeE (q : Mb) (l : List Br) (rs : List Rn) (p : Pt) : Bool × Int :=
  if okMb q = true ∧ laidB l rs = true then (if tipB q p = true then (freeR q (rodsI l rs) p, 0) else (false, 2)) else (false, 1)

/-- A point reached from another, and from one of some. -/
def inReach (reach : Int) (p q : Pt) : Bool := decide (max (p.x - q.x) (q.x - p.x) ≤ reach) && (decide (max (p.y - q.y) (q.y - p.y) ≤ reach) && decide (q.z - reach ≤ p.z))
def reachedB (l : List Pt) (reach : Int) (p : Pt) : Bool := l.any (inReach reach p)
def reachedE (l : List Pt) (reach : Int) (p : Pt) : Bool × Int :=
  if 5000 < l.length then (false, 4) else if nearB p 1048576 = true ∧ 0 ≤ reach ∧ reach ≤ 1048576 ∧ l.all (fun q => nearB q 1048576) = true then (reachedB l reach p, 0) else (false, 2)

/-- The coordinates of a grid along an axis. -/
def gridL (lo hi step : Int) : List Int := (List.range ((hi - lo) / step + 1).toNat).map fun i : Nat => lo + (i : Int) * step
def lowest (q : Mb) (R : List Rc) (x y : Int) (Z : List Int) : List Pt := match Z.find? (fun z => freeR q R ⟨x, y, z⟩) with | some z => [⟨x, y, z⟩] | none => []
def placesI (q : Mb) (R : List Rc) (X Y Z : List Int) : List Pt := X.flatMap fun x => Y.flatMap fun y => lowest q R x y Z
def dryI (q : Mb) (P : List Pt) (reach : Int) (X Y Z : List Int) : List Pt :=
  X.flatMap fun x => Y.flatMap fun y => Z.filterMap fun z => if !reachedB P reach ⟨x, y, z⟩ && containsS q.l q.m ⟨x, y, z, x, y, z⟩ then some ⟨x, y, z⟩ else none

end Go.Proofs.YtmoechhfjmemaaaGreat

namespace Go.Proofs.YtmoechhfjmemaaaGreat
open Go.RowKit
set_option maxRecDepth 20000

set_option maxRecDepth 100000 in
set_option maxHeartbeats 400000 in
theorem indexFunc_cPt (F : Nat) (hE : Enters F) (caps : Array Value) (p : Pt → Bool) (l : List Pt) (v : Value) (w : World) (hl : Pts w v l)
    (hf : ∀ b x, b ∈ l → Calls Tryz.prog F (#[(.agg #[.int .i64 b.x, .int .i64 b.y, .int .i64 b.z])] ++ caps) (ext w x) (Ret (ext w x) (.bool (p b)))) :
    Calls Tryz.prog 68 #[v, .func (.func F) #[] caps] w (Ret w (.int .i64 (((l.findIdx? p).map (fun i : Nat => (i : Int))).getD (-1)))) := by
  obtain ⟨a, cap, rfl, h2, h3, h4⟩ := hl
  by_cases hnil : l = []
  · subst hnil
    clear hf hE h4
    go_enter Tryz.func68, Tryz.ntmps68
    go_wp2
    refine wp_loop_rounds 1 ?_
    rw [rounds_succ]
    go_wp2
    go_ret
    exact Ret.of (by (repeat (first | exact grow_refl _ | refine grow_ext _ ?_ | refine grow_alloc _ ?_ | refine grow_drew ?_)))
  · have HF := Lib.hid hf
    clear hf
    clear hnil
    have hn : l.length ≤ 9223372036854775807 := by omega
    go_enter Tryz.func68, Tryz.ntmps68
    go_wp2
    go_loopw [8, 5] (fun i j wr => ∃ k : Nat, k ≤ l.length ∧ i = .int .i64 k ∧ (∃ x, wr = ext w x) ∧ ∀ j (h : j < k) (h' : j < l.length), p l[j] = false) (fun i j _ => l.length - (intOf i).toNat)
    case atStart => exact ⟨0, by omega, rfl, ext_of (Below.refl _ _), fun j h => by omega⟩
    case round =>
      obtain ⟨k, hk, rfl, ⟨x, rfl⟩, hno⟩ := hrel
      have HNO := Lib.hid hno
      clear hno
      by_cases hlt : k < l.length
      · have hbox := h4 k hlt
        have hcall := HF.out l[k] x (List.getElem_mem hlt)
        obtain ⟨b, off, rfl, c0, c1, c2⟩ := hbox
        have H4 := Lib.hid h4
        have HC := Lib.hid hcall
        clear h4 hcall
        go_wp2_with fail
        rw [show ∀ (a : Array Value) (w : World), (callFunc F a).run Tryz.prog w = .ok (.enter F a) w from hE, Oper.upon_enter]
        refine HC.out.mono ?_
        rintro e w' ⟨rfl, y, rfl⟩
        cases hp : p l[k]
        · have HP := Lib.hid hp
          clear hp
          go_wp2
          go_roundw
          case rel => exact ⟨k + 1, by omega, by go_num, ⟨_, ext_ext _ _ _⟩, fun j h1 h2 => by
            rcases Nat.lt_or_ge j k with h | h
            · exact HNO.out j h h2
            · obtain rfl : j = k := by omega
              exact HP.out⟩
          case measure => simp [intOf]; omega
        · have he : l.findIdx? p = some k := by
            rw [List.findIdx?_eq_some_iff_getElem]
            exact ⟨hlt, hp, fun j hj => by simp [HNO.out j hj (by omega)]⟩
          have HE := Lib.hid he
          clear he hp
          go_wp2
          go_ret
          rw [HE.out]
          exact Ret.of (by (repeat (first | exact grow_refl _ | refine grow_ext _ ?_ | refine grow_alloc _ ?_ | refine grow_drew ?_)))
      · have he : l.findIdx? p = none := by
          rw [List.findIdx?_eq_none_iff]
          intro z hz
          obtain ⟨j, hj, rfl⟩ := List.getElem_of_mem hz
          exact HNO.out j (by omega) hj
        have HE := Lib.hid he
        clear he
        have H4 := Lib.hid h4
        clear h4
        go_wp2
        go_ret
        rw [HE.out]
        exact Ret.of (by (repeat (first | exact grow_refl _ | refine grow_ext _ ?_ | refine grow_alloc _ ?_ | refine grow_drew ?_)))

theorem find_anyPt {p : Pt → Bool} {l : List Pt} : (decide (0 ≤ (((l.findIdx? p).map (fun i : Nat => (i : Int))).getD (-1)))) = l.any p := by
  cases h : l.findIdx? p with
  | none =>
    have := List.findIdx?_eq_none_iff.1 h
    simp only [Option.map_none, Option.getD_none]
    rw [show (decide ((0 : Int) ≤ -1)) = false from rfl]
    symm; rw [List.any_eq_false]; intro x hx; simp [this x hx]
  | some k =>
    rw [List.findIdx?_eq_some_iff_getElem] at h
    obtain ⟨hk, hp, _⟩ := h
    simp only [Option.map_some, Option.getD_some]
    rw [show decide ((0 : Int) ≤ (k : Int)) = true from by simp]
    symm; rw [List.any_eq_true]; exact ⟨_, List.getElem_mem hk, hp⟩

set_option maxRecDepth 100000 in
set_option maxHeartbeats 400000 in
theorem containsFunc_cPt (F : Nat) (hE : Enters F) (caps : Array Value) (p : Pt → Bool) (l : List Pt) (v : Value) (w : World) (hl : Pts w v l)
    (hf : ∀ b x, b ∈ l → Calls Tryz.prog F (#[(.agg #[.int .i64 b.x, .int .i64 b.y, .int .i64 b.z])] ++ caps) (ext w x) (Ret (ext w x) (.bool (p b)))) :
    Calls Tryz.prog 22 #[v, .func (.func F) #[] caps] w (Ret w (.bool (l.any p))) := by
  have hfa := Lib.hid (@find_anyPt p l)
  have hi := Lib.hid (indexFunc_cPt F hE caps p l v w hl hf)
  clear hf hl
  go_enter Tryz.func22, Tryz.ntmps22
  go_wp2_with fail
  refine hi.out.mono ?_; rintro e w' ⟨rfl, x, rfl⟩
  generalize (((l.findIdx? p).map (fun i : Nat => (i : Int))).getD (-1)) = r at hfa ⊢
  go_wp2
  go_ret
  rw [← hfa.out]
  exact Ret.of (by (repeat (first | exact grow_refl _ | refine grow_ext _ ?_ | refine grow_alloc _ ?_ | refine grow_drew ?_)))

set_option maxRecDepth 100000 in
set_option maxHeartbeats 400000 in
theorem indexFunc_cRd (F : Nat) (hE : Enters F) (caps : Array Value) (p : Rc → Bool) (l : List Rc) (v : Value) (w : World) (hl : Rcs w v l)
    (hf : ∀ b x, b ∈ l → Calls Tryz.prog F (#[(.agg #[.int .i64 b.box.lx, .int .i64 b.box.ly, .int .i64 b.box.lz, .int .i64 b.box.hx, .int .i64 b.box.hy, .int .i64 b.box.hz, .int .i64 b.bar])] ++ caps) (ext w x) (Ret (ext w x) (.bool (p b)))) :
    Calls Tryz.prog 122 #[v, .func (.func F) #[] caps] w (Ret w (.int .i64 (((l.findIdx? p).map (fun i : Nat => (i : Int))).getD (-1)))) := by
  obtain ⟨a, cap, rfl, h2, h3, h4⟩ := hl
  by_cases hnil : l = []
  · subst hnil
    clear hf hE h4
    go_enter Tryz.func122, Tryz.ntmps122
    go_wp2
    refine wp_loop_rounds 1 ?_
    rw [rounds_succ]
    go_wp2
    go_ret
    exact Ret.of (by (repeat (first | exact grow_refl _ | refine grow_ext _ ?_ | refine grow_alloc _ ?_ | refine grow_drew ?_)))
  · have HF := Lib.hid hf
    clear hf
    clear hnil
    have hn : l.length ≤ 9223372036854775807 := by omega
    go_enter Tryz.func122, Tryz.ntmps122
    go_wp2
    go_loopw [8, 5] (fun i j wr => ∃ k : Nat, k ≤ l.length ∧ i = .int .i64 k ∧ (∃ x, wr = ext w x) ∧ ∀ j (h : j < k) (h' : j < l.length), p l[j] = false) (fun i j _ => l.length - (intOf i).toNat)
    case atStart => exact ⟨0, by omega, rfl, ext_of (Below.refl _ _), fun j h => by omega⟩
    case round =>
      obtain ⟨k, hk, rfl, ⟨x, rfl⟩, hno⟩ := hrel
      have HNO := Lib.hid hno
      clear hno
      by_cases hlt : k < l.length
      · have hbox := h4 k hlt
        have hcall := HF.out l[k] x (List.getElem_mem hlt)
        obtain ⟨b, off, rfl, c0, c1, c2, c3, c4, c5, c6⟩ := hbox
        have H4 := Lib.hid h4
        have HC := Lib.hid hcall
        clear h4 hcall
        go_wp2_with fail
        rw [show ∀ (a : Array Value) (w : World), (callFunc F a).run Tryz.prog w = .ok (.enter F a) w from hE, Oper.upon_enter]
        refine HC.out.mono ?_
        rintro e w' ⟨rfl, y, rfl⟩
        cases hp : p l[k]
        · have HP := Lib.hid hp
          clear hp
          go_wp2
          go_roundw
          case rel => exact ⟨k + 1, by omega, by go_num, ⟨_, ext_ext _ _ _⟩, fun j h1 h2 => by
            rcases Nat.lt_or_ge j k with h | h
            · exact HNO.out j h h2
            · obtain rfl : j = k := by omega
              exact HP.out⟩
          case measure => simp [intOf]; omega
        · have he : l.findIdx? p = some k := by
            rw [List.findIdx?_eq_some_iff_getElem]
            exact ⟨hlt, hp, fun j hj => by simp [HNO.out j hj (by omega)]⟩
          have HE := Lib.hid he
          clear he hp
          go_wp2
          go_ret
          rw [HE.out]
          exact Ret.of (by (repeat (first | exact grow_refl _ | refine grow_ext _ ?_ | refine grow_alloc _ ?_ | refine grow_drew ?_)))
      · have he : l.findIdx? p = none := by
          rw [List.findIdx?_eq_none_iff]
          intro z hz
          obtain ⟨j, hj, rfl⟩ := List.getElem_of_mem hz
          exact HNO.out j (by omega) hj
        have HE := Lib.hid he
        clear he
        have H4 := Lib.hid h4
        clear h4
        go_wp2
        go_ret
        rw [HE.out]
        exact Ret.of (by (repeat (first | exact grow_refl _ | refine grow_ext _ ?_ | refine grow_alloc _ ?_ | refine grow_drew ?_)))

theorem find_anyRd {p : Rc → Bool} {l : List Rc} : (decide (0 ≤ (((l.findIdx? p).map (fun i : Nat => (i : Int))).getD (-1)))) = l.any p := by
  cases h : l.findIdx? p with
  | none =>
    have := List.findIdx?_eq_none_iff.1 h
    simp only [Option.map_none, Option.getD_none]
    rw [show (decide ((0 : Int) ≤ -1)) = false from rfl]
    symm; rw [List.any_eq_false]; intro x hx; simp [this x hx]
  | some k =>
    rw [List.findIdx?_eq_some_iff_getElem] at h
    obtain ⟨hk, hp, _⟩ := h
    simp only [Option.map_some, Option.getD_some]
    rw [show decide ((0 : Int) ≤ (k : Int)) = true from by simp]
    symm; rw [List.any_eq_true]; exact ⟨_, List.getElem_mem hk, hp⟩

set_option maxRecDepth 100000 in
set_option maxHeartbeats 400000 in
theorem containsFunc_cRd (F : Nat) (hE : Enters F) (caps : Array Value) (p : Rc → Bool) (l : List Rc) (v : Value) (w : World) (hl : Rcs w v l)
    (hf : ∀ b x, b ∈ l → Calls Tryz.prog F (#[(.agg #[.int .i64 b.box.lx, .int .i64 b.box.ly, .int .i64 b.box.lz, .int .i64 b.box.hx, .int .i64 b.box.hy, .int .i64 b.box.hz, .int .i64 b.bar])] ++ caps) (ext w x) (Ret (ext w x) (.bool (p b)))) :
    Calls Tryz.prog 87 #[v, .func (.func F) #[] caps] w (Ret w (.bool (l.any p))) := by
  have hfa := Lib.hid (@find_anyRd p l)
  have hi := Lib.hid (indexFunc_cRd F hE caps p l v w hl hf)
  clear hf hl
  go_enter Tryz.func87, Tryz.ntmps87
  go_wp2_with fail
  refine hi.out.mono ?_; rintro e w' ⟨rfl, x, rfl⟩
  generalize (((l.findIdx? p).map (fun i : Nat => (i : Int))).getD (-1)) = r at hfa ⊢
  go_wp2
  go_ret
  rw [← hfa.out]
  exact Ret.of (by (repeat (first | exact grow_refl _ | refine grow_ext _ ?_ | refine grow_alloc _ ?_ | refine grow_drew ?_)))

end Go.Proofs.YtmoechhfjmemaaaGreat

namespace Go.Proofs.YtmoechhfjmemaaaGreat
open Go.RowKit
set_option maxRecDepth 20000

theorem pright_v (p : Pt) (r : Bool) (h : nearB p 1048576 = r) (w : World) : Calls Tryz.prog 50 #[(.agg #[.int .i64 p.x, .int .i64 p.y, .int .i64 p.z])] w (Ret w (.bool r)) := by
  by_cases h1 : max p.x (max p.y p.z) ≤ 1048576
  · have HR := Lib.hid (show decide (-1048576 ≤ min p.x (min p.y p.z)) = r by
      rw [← h, Bool.eq_iff_iff, near_iff, decide_eq_true_iff]; unfold NearP; omega)
    clear h
    go_enter Tryz.func50, Tryz.ntmps50
    go_wp2
    go_ret
    rw [HR.out]
    exact Ret.of (by (repeat (first | exact grow_refl _ | refine grow_ext _ ?_ | refine grow_alloc _ ?_ | refine grow_drew ?_)))
  · have HR := Lib.hid (show false = r by
      rw [← h]; symm; rw [Bool.eq_false_iff]; intro q; rw [near_iff] at q; unfold NearP at q; omega)
    clear h
    go_enter Tryz.func50, Tryz.ntmps50
    go_wp2
    go_ret
    rw [← HR.out]
    exact Ret.of (by (repeat (first | exact grow_refl _ | refine grow_ext _ ?_ | refine grow_alloc _ ?_ | refine grow_drew ?_)))

theorem ptop_c (q : Mb) (hs : solidB q.l q.m = true) (w : World) (hq : MbAt w q) : Calls Tryz.prog 51 #[(.agg #[.string q.name, q.u, q.t, .int .i64 q.cover, .int .i64 q.agg, .int .i64 q.poker])] w (Ret w (.int .i64 (topI q))) := by
  have HQ := Lib.hid hq
  have HH := Lib.hid (fun w hl hm => solidHull_c q.l q.m q.u q.t w hl hm)
  rw [show hullS q.l q.m = (hullX q.l, 0) by unfold hullS; rw [if_pos hs]] at HH
  have HE := Lib.hid (show topI q = (hullX q.l).hz from rfl)
  generalize hullX q.l = H at *
  clear hq hs
  go_enter Tryz.func51, Tryz.ntmps51
  go_wp2_with fail
  go_at_call 32; refine (HH.out _ (HQ.out.boxes.below (by (repeat (first | exact grow_refl _ | refine grow_ext _ ?_ | refine grow_alloc _ ?_ | refine grow_drew ?_)))) (HQ.out.holes.below (by (repeat (first | exact grow_refl _ | refine grow_ext _ ?_ | refine grow_alloc _ ?_ | refine grow_drew ?_))))).mono ?_; rintro e w' ⟨rfl, x1, rfl⟩
  go_wp2
  go_ret
  rw [HE.out]
  exact Ret.of (by (repeat (first | exact grow_refl _ | refine grow_ext _ ?_ | refine grow_alloc _ ?_ | refine grow_drew ?_)))

/-- The bounds of a member and a tip. -/
structure TipOk (q : Mb) (p : Pt) : Prop where
  solid : solidB q.l q.m = true
  lo : 1 ≤ q.poker
  hi : q.poker ≤ 200
  x : -1048576 ≤ p.x ∧ p.x ≤ 1048576
  y : -1048576 ≤ p.y ∧ p.y ≤ 1048576
theorem okMb_facts {q : Mb} (h : okMb q = true) : solidB q.l q.m = true ∧ 1 ≤ q.poker ∧ q.poker ≤ 200 := by
  have := member_iff.1 h
  exact ⟨this.2.1, this.2.2.2.2⟩
theorem tip_ok {q : Mb} {p : Pt} (h : okMb q = true) (hn : nearB p 1048576 = true) : TipOk q p := by
  obtain ⟨h1, h2, h3⟩ := okMb_facts h
  obtain ⟨n1, n2, n3⟩ := near_iff.1 hn
  exact ⟨h1, h2, h3, n1, n2⟩

set_option maxHeartbeats 2000000 in
theorem pcolumn_c (q : Mb) (p : Pt) (hk : TipOk q p) (w : World) (hq : MbAt w q) : Calls Tryz.prog 52 #[(.agg #[.string q.name, q.u, q.t, .int .i64 q.cover, .int .i64 q.agg, .int .i64 q.poker]), (.agg #[.int .i64 p.x, .int .i64 p.y, .int .i64 p.z])] w (Ret w (.agg #[.int .i64 (colX q p).lx, .int .i64 (colX q p).ly, .int .i64 (colX q p).lz, .int .i64 (colX q p).hx, .int .i64 (colX q p).hy, .int .i64 (colX q p).hz])) := by
  obtain ⟨hs, k1, k2, hx, hy⟩ := hk
  have HQ := Lib.hid hq
  have HT := Lib.hid (fun w hq => ptop_c q hs w hq)
  have e1 : Int.tdiv (q.poker + 1) 2 = (q.poker + 1) / 2 := Int.tdiv_eq_ediv_of_nonneg (by omega)
  have HE := Lib.hid (show colX q p = ⟨p.x - (q.poker + 1) / 2, p.y - (q.poker + 1) / 2, p.z, p.x + (q.poker + 1) / 2, p.y + (q.poker + 1) / 2, topI q⟩ from rfl)
  obtain ⟨h, hh⟩ : ∃ h, (q.poker + 1) / 2 = h := ⟨_, rfl⟩
  have h0 : 0 ≤ h ∧ h ≤ 101 := by omega
  rw [hh] at e1 HE
  generalize colX q p = C at *
  generalize topI q = T at *
  clear hq hs hh
  go_enter Tryz.func52, Tryz.ntmps52
  go_wp2_with fail
  refine wp_region_tail 23 (by kernel_rfl) (by kernel_rfl) ?_; simp only [List.take_succ_cons, List.take_zero, List.drop_succ_cons, List.drop_zero]
  repeat (go_big_quiet_step ((go_at_call 51; exact Calls.quiet_ext (HT.out _ (HQ.out.below (by (repeat (first | exact grow_refl _ | refine grow_ext _ ?_ | refine grow_alloc _ ?_ | refine grow_drew ?_))))))))
  refine wpQuiet_nil ?_; rintro _ ⟨xq, rfl⟩
  go_wp2
  rw [HE.out]
  refine bodyPost_ret (v := .agg #[.int .i64 (p.x - h), .int .i64 (p.y - h), .int .i64 p.z, .int .i64 (p.x + h), .int .i64 (p.y + h), .int .i64 T]) (by simp [results, Tryz.results52, go_sem]) rfl ?_
  exact Ret.of (by (repeat (first | exact grow_refl _ | refine grow_ext _ ?_ | refine grow_alloc _ ?_ | refine grow_drew ?_)))

set_option maxHeartbeats 2000000 in
theorem pColumn_v (q : Mb) (p : Pt) (B : Bx) (E : Int) (h : columnE q p = (B, E)) (w : World) (hq : MbAt w q) : Calls Tryz.prog 13 #[(.agg #[.string q.name, q.u, q.t, .int .i64 q.cover, .int .i64 q.agg, .int .i64 q.poker]), (.agg #[.int .i64 p.x, .int .i64 p.y, .int .i64 p.z])] w (Ret w (.tuple #[(.agg #[.int .i64 B.lx, .int .i64 B.ly, .int .i64 B.lz, .int .i64 B.hx, .int .i64 B.hy, .int .i64 B.hz]), .int .i64 E])) := by
  have HQ := Lib.hid hq
  have HM := Lib.hid (fun r h w hl hm => solidMember_v q.name q.l q.m q.u q.t q.cover q.agg q.poker r h hq.name w hl hm)
  unfold columnE at h
  clear hq
  cases hm : okMb q
  · rw [hm] at h
    have H1 := Lib.hid hm
    simp only [Bool.false_eq_true, if_false] at h
    cases h
    clear hm
    unfold okMb at H1
    go_enter Tryz.func13, Tryz.ntmps13
    go_wp2_with fail
    go_at_call 49; refine (HM.out _ H1.out _ (HQ.out.boxes.below (by (repeat (first | exact grow_refl _ | refine grow_ext _ ?_ | refine grow_alloc _ ?_ | refine grow_drew ?_)))) (HQ.out.holes.below (by (repeat (first | exact grow_refl _ | refine grow_ext _ ?_ | refine grow_alloc _ ?_ | refine grow_drew ?_))))).mono ?_; rintro e w' ⟨rfl, x1, rfl⟩
    go_wp2
    refine bodyPost_ret (v := .tuple #[(.agg #[.int .i64 zeroX.lx, .int .i64 zeroX.ly, .int .i64 zeroX.lz, .int .i64 zeroX.hx, .int .i64 zeroX.hy, .int .i64 zeroX.hz]), .int .i64 1]) (by simp [results, Tryz.results13, go_sem, zeroX]) rfl ?_
    exact Ret.of (by (repeat (first | exact grow_refl _ | refine grow_ext _ ?_ | refine grow_alloc _ ?_ | refine grow_drew ?_)))
  rw [hm, if_pos rfl] at h
  have H1 := Lib.hid hm
  have HT := Lib.hid (fun w hq => ptop_c q (okMb_facts hm).1 w hq)
  unfold okMb at H1
  cases hn : nearB p 1048576
  · rw [show tipB q p = false by unfold tipB; rw [hn]; rfl] at h
    simp only [Bool.false_eq_true, if_false] at h
    cases h
    have HN := Lib.hid hn
    clear hm hn
    go_enter Tryz.func13, Tryz.ntmps13
    go_wp2_with fail
    go_at_call 49; refine (HM.out _ H1.out _ (HQ.out.boxes.below (by (repeat (first | exact grow_refl _ | refine grow_ext _ ?_ | refine grow_alloc _ ?_ | refine grow_drew ?_)))) (HQ.out.holes.below (by (repeat (first | exact grow_refl _ | refine grow_ext _ ?_ | refine grow_alloc _ ?_ | refine grow_drew ?_))))).mono ?_; rintro e w' ⟨rfl, x1, rfl⟩
    go_wp2_with fail
    refine wp_region_grows (by kernel_rfl) (by kernel_rfl) ?_
    repeat (go_big_quiet_step ((go_at_call 50; exact Calls.quiet_ext (pright_v p _ HN.out _))))
    refine wpQuiet_nil ?_; rintro _ ⟨xq, rfl⟩
    go_wp2
    refine bodyPost_ret (v := .tuple #[(.agg #[.int .i64 zeroX.lx, .int .i64 zeroX.ly, .int .i64 zeroX.lz, .int .i64 zeroX.hx, .int .i64 zeroX.hy, .int .i64 zeroX.hz]), .int .i64 2]) (by simp [results, Tryz.results13, go_sem, zeroX]) rfl ?_
    exact Ret.of (by (repeat (first | exact grow_refl _ | refine grow_ext _ ?_ | refine grow_alloc _ ?_ | refine grow_drew ?_)))
  have HN := Lib.hid hn
  have HC := Lib.hid (fun w hq => pcolumn_c q p (tip_ok hm hn) w hq)
  have ht : tipB q p = decide (p.z ≤ topI q) := by unfold tipB; rw [hn, Bool.true_and]
  rw [ht] at h
  generalize topI q = T at *
  generalize colX q p = C at *
  clear hm hn ht
  by_cases hz : p.z ≤ T
  · rw [if_pos (decide_eq_true hz)] at h
    cases h
    have d1 : decide (T < p.z) = false := by simp; omega
    clear hz
    go_enter Tryz.func13, Tryz.ntmps13
    go_wp2_with fail
    go_at_call 49; refine (HM.out _ H1.out _ (HQ.out.boxes.below (by (repeat (first | exact grow_refl _ | refine grow_ext _ ?_ | refine grow_alloc _ ?_ | refine grow_drew ?_)))) (HQ.out.holes.below (by (repeat (first | exact grow_refl _ | refine grow_ext _ ?_ | refine grow_alloc _ ?_ | refine grow_drew ?_))))).mono ?_; rintro e w' ⟨rfl, x1, rfl⟩
    go_wp2_with fail
    refine wp_region_grows (by kernel_rfl) (by kernel_rfl) ?_
    repeat (go_big_quiet_step ((first | (go_at_call 50; exact Calls.quiet_ext (pright_v p _ HN.out _)) | (go_at_call 51; exact Calls.quiet_ext (HT.out _ (HQ.out.below (by (repeat (first | exact grow_refl _ | refine grow_ext _ ?_ | refine grow_alloc _ ?_ | refine grow_drew ?_)))))))))
    refine wpQuiet_nil ?_; rintro _ ⟨xq, rfl⟩
    go_wp2_with fail
    go_at_call 52; refine (HC.out _ (HQ.out.below (by (repeat (first | exact grow_refl _ | refine grow_ext _ ?_ | refine grow_alloc _ ?_ | refine grow_drew ?_))))).mono ?_; rintro e w' ⟨rfl, x2, rfl⟩
    go_wp2
    refine bodyPost_ret (v := .tuple #[(.agg #[.int .i64 B.lx, .int .i64 B.ly, .int .i64 B.lz, .int .i64 B.hx, .int .i64 B.hy, .int .i64 B.hz]), .int .i64 0]) (by simp [results, Tryz.results13, go_sem]) rfl ?_
    exact Ret.of (by (repeat (first | exact grow_refl _ | refine grow_ext _ ?_ | refine grow_alloc _ ?_ | refine grow_drew ?_)))
  · rw [if_neg (by simpa using hz)] at h
    cases h
    have d1 : decide (T < p.z) = true := by simp; omega
    clear hz
    go_enter Tryz.func13, Tryz.ntmps13
    go_wp2_with fail
    go_at_call 49; refine (HM.out _ H1.out _ (HQ.out.boxes.below (by (repeat (first | exact grow_refl _ | refine grow_ext _ ?_ | refine grow_alloc _ ?_ | refine grow_drew ?_)))) (HQ.out.holes.below (by (repeat (first | exact grow_refl _ | refine grow_ext _ ?_ | refine grow_alloc _ ?_ | refine grow_drew ?_))))).mono ?_; rintro e w' ⟨rfl, x1, rfl⟩
    go_wp2_with fail
    refine wp_region_grows (by kernel_rfl) (by kernel_rfl) ?_
    repeat (go_big_quiet_step ((first | (go_at_call 50; exact Calls.quiet_ext (pright_v p _ HN.out _)) | (go_at_call 51; exact Calls.quiet_ext (HT.out _ (HQ.out.below (by (repeat (first | exact grow_refl _ | refine grow_ext _ ?_ | refine grow_alloc _ ?_ | refine grow_drew ?_)))))))))
    refine wpQuiet_nil ?_; rintro _ ⟨xq, rfl⟩
    go_wp2
    refine bodyPost_ret (v := .tuple #[(.agg #[.int .i64 zeroX.lx, .int .i64 zeroX.ly, .int .i64 zeroX.lz, .int .i64 zeroX.hx, .int .i64 zeroX.hy, .int .i64 zeroX.hz]), .int .i64 2]) (by simp [results, Tryz.results13, go_sem, zeroX]) rfl ?_
    exact Ret.of (by (repeat (first | exact grow_refl _ | refine grow_ext _ ?_ | refine grow_alloc _ ?_ | refine grow_drew ?_)))

end Go.Proofs.YtmoechhfjmemaaaGreat

namespace Go.Proofs.YtmoechhfjmemaaaGreat
open Go.RowKit
set_option maxRecDepth 20000

theorem half_wf {d : Int} (h : sizeB d = true) : (Lit.int .i64 (halfI d)).wf = true := by
  rcases size_iff.1 h with rfl | rfl | rfl | rfl | rfl | rfl | rfl | rfl | rfl <;> rfl
def halfF (b : Br) : Int := halfI b.size
def RetRds (w : World) (l : List Rc) (err : Int) (e : Ending) (w' : World) : Prop :=
  ∃ v, e = .returned (.tuple #[v, .int .i64 err]) ∧ w'.ownsRow w.heap.size 119 7 v l.length (rcCells l) ∧ ∃ x, w' = ext w x
theorem info_rd : (Tryz.prog.info? 119).map (fun i => (i.zero, i.size, i.bytes)) = some (some (.agg #[.int .i64 0, .int .i64 0, .int .i64 0, .int .i64 0, .int .i64 0, .int .i64 0, .int .i64 0]), 7, 56) := by kernel_rfl

set_option maxRecDepth 100000 in
set_option maxHeartbeats 8000000 in
theorem rods_ok_c (l : List Br) (rs : List Rn) (v u : Value) (hv : laidB l rs = true) (w : World) (hl : Bars w v l) (hr : Runs w u rs) :
    Calls Tryz.prog 86 #[v, u] w (RetRds w (rodsI l rs) 0) := by
  have HL := Lib.hid hl
  have HR := Lib.hid hr
  have HV := Lib.hid hv
  have HC := Lib.hid (fun w hl hr => count_c l rs v u w hl hr)
  rw [show countE l rs = (countS rs, 0) by unfold countE; rw [if_pos hv]] at HC
  have hcl := count_le hv rs.length
  rw [List.take_length] at hcl
  obtain ⟨k0, _, k2⟩ := hcl
  have HCI := Lib.hid (show rodsI l rs = rodsTo l rs (countS rs).toNat from rfl)
  obtain ⟨N, hN⟩ : ∃ N, countS rs = N := ⟨_, rfl⟩
  rw [hN] at HC k0 k2 HCI
  have HN := Lib.hid hN
  obtain ⟨va, vc, rfl, h2, h3, h4⟩ := hl.shape
  have H4 := Lib.hid h4
  have hlen60 : l.length ≤ 60 := by
    have := (laidB_iff.1 hv).1
    unfold schedB at this
    simp only [Bool.and_eq_true, decide_eq_true_iff] at this
    exact this.1
  have hmm := @run_makeMap Tryz.prog
  clear hl hr h4 hv hN
  go_enter Tryz.func86, Tryz.ntmps86
  go_wp2_with fail
  go_at_call 43; refine (HC.out _ (HL.out.below (by (repeat (first | exact grow_refl _ | refine grow_ext _ ?_ | refine grow_alloc _ ?_ | refine grow_drew ?_)))) (HR.out.below (by (repeat (first | exact grow_refl _ | refine grow_ext _ ?_ | refine grow_alloc _ ?_ | refine grow_drew ?_))))).mono ?_; rintro e w' ⟨rfl, x1, rfl⟩
  go_wp2_with fail
  obtain ⟨gM, hgM⟩ : ∃ g, g = w.heap.size + x1.heap.size := ⟨_, rfl⟩
  rw [← hgM]
  refine world_mask (fun W => Below w.heap.size w W ∧ SzMap halfF W gM 0 [] ∧ w.heap.size ≤ gM) _ ⟨by (repeat (first | exact grow_refl _ | refine grow_ext _ ?_ | refine grow_alloc _ ?_ | refine grow_drew ?_)), ?_, by omega⟩ ?_
  · have := SzMap.made halfF (ext w x1)
    rw [size_ext, ← hgM] at this
    exact this
  clear hgM hmm
  rintro W0 ⟨hb0, hm0, hgM⟩
  go_loopw [7, 30] (fun e i wr => ∃ k : Nat, k ≤ l.length ∧ e = .int .i64 0 ∧ i = .int .i64 k ∧ Below w.heap.size w wr ∧ SzMap halfF wr gM k (l.take k)) (fun _ i _ => l.length - (intOf i).toNat)
  case atStart => exact ⟨0, by omega, rfl, rfl, hb0, hm0⟩
  case round =>
    clear hb0 hm0
    obtain ⟨k, hk, rfl, rfl, hb, hm⟩ := hrel
    have HB := Lib.hid hb
    have HM := Lib.hid hm
    by_cases hlt : k < l.length
    · obtain ⟨hok, b0, off, rfl, hbr⟩ := H4.out k hlt
      have q1 : (0 : Int) ≤ (k : Int) := by omega
      have q2 : (k : Int) < (l.length : Int) := by omega
      have hsz := (shape_facts (schedB_shape (laidB_iff.1 HV.out).1 _ (List.getElem_mem hlt))).2.2.1
      have htk : l.take (k + 1) = l.take k ++ [l[k]] := List.take_succ_eq_append_getElem hlt
      obtain ⟨b, hbl⟩ : ∃ b, l[k] = b := ⟨_, rfl⟩
      rw [hbl] at hok hbr hsz htk
      obtain ⟨y, ey⟩ := ext_of hb
      have hbr2 := hbr.ext y
      rw [← ey] at hbr2
      obtain ⟨c0, c1, c2, c3, c4⟩ := hbr2
      obtain ⟨ad, cd, ev, _, _, _⟩ := hok.dims
      have hns := hok.mark
      obtain ⟨mark, size, count, code, dims, dv⟩ := b
      simp only at ev c0 c1 c2 c3 c4 hsz hns
      subst ev
      have HTK := Lib.hid htk
      have HWF := Lib.hid (half_wf hsz)
      have HRD := Lib.hid (fun w => Round_c size w)
      rw [show roundR size = (halfI size, 0) by unfold roundR; rw [if_pos hsz]; rfl] at HRD
      obtain ⟨H, hH⟩ : ∃ H, halfI size = H := ⟨_, rfl⟩
      rw [hH] at HRD HWF
      have HH := Lib.hid hH
      obtain ⟨D, m1, m2, m3⟩ := hm
      have M1 := Lib.hid (show ∀ W, Below wr.heap.size wr W → W.ownsMap Tryz.prog 9 (plainElem Tryz.prog 3) gM k D from fun W hb => m1.kept (row := none) ⟨hb.os, hb.tape, hb.output, hb.size, fun k hk _ => hb.block k hk⟩ (by simp))
      have M2 := Lib.hid m2
      have M3 := Lib.hid m3
      have hml := m1.lt
      clear hok hbr hsz htk hbl ey hb hH m1 m2 m3
      obtain ⟨W6, hW6⟩ : ∃ W6 : World → World, ∀ xq, (Instr.mapUpdate 144 (.map (some gM)) (.string mark) (.int .i64 H)).run Tryz.prog (ext (wr.alloc (.cells #[.string mark, .int .i64 size, .int .i64 count, .int .i64 code, .slice ad dims.length cd] 98)) xq) = .ok () (W6 xq) ∧ (W6 xq).ownsMap Tryz.prog 9 (plainElem Tryz.prog 3) gM (k + 1) (D.put (.string mark.data.toList) (.lit (.int .i64 H))) ∧ (ext (wr.alloc (.cells #[.string mark, .int .i64 size, .int .i64 count, .int .i64 code, .slice ad dims.length cd] 98)) xq).grownBy (W6 xq) (some gM) := by
        have h := fun xq => (M1.out (ext (wr.alloc (.cells #[.string mark, .int .i64 size, .int .i64 count, .int .i64 code, .slice ad dims.length cd] 98)) xq) (by (repeat (first | exact grow_refl _ | refine grow_ext _ ?_ | refine grow_alloc _ ?_ | refine grow_drew ?_)))).update marks_law Tryz.underlying144 (by unfold maxLen; omega) (WideMaps.keyOf_string_mk Tryz.underlying9 (by unfold maxLen; exact hns)) (plainElem_int Tryz.underlying3 HWF.out)
        exact ⟨fun xq => (h xq).choose, fun xq => (h xq).choose_spec⟩
      have hrun := fun xq => (hW6 xq).1
      have HW6 := Lib.hid hW6
      have HN2 := Lib.hid (fun w2 (h : World.ownsMap w2 Tryz.prog 9 (plainElem Tryz.prog 3) gM (k + 1) (D.put (.string mark.data.toList) (.lit (.int .i64 H)))) => SzMap.put (g := halfF) (f := ⟨mark, size, count, code, dims, .slice ad dims.length cd⟩) M2.out M3.out (by rw [show halfF ⟨mark, size, count, code, dims, .slice ad dims.length cd⟩ = H from HH.out]; exact h))
      clear hW6
      go_wp2_with fail
      go_region_with (go_at_call 119; refine (HRD.out _).mono ?_; rintro e w' ⟨rfl, xq, rfl⟩)
      all_goals
        go_wp2
        exact ⟨⟨k + 1, by omega, rfl, by go_num, (HB.out.trans (Below.mono (show Below wr.heap.size wr (ext (wr.alloc (.cells #[.string mark, .int .i64 size, .int .i64 count, .int .i64 code, .slice ad dims.length cd] 98)) xq) from by (repeat (first | exact grow_refl _ | refine grow_ext _ ?_ | refine grow_alloc _ ?_ | refine grow_drew ?_))) HB.out.size)).grown (HW6.out xq).2.2 (by have := HB.out.size; simp only [World.size_alloc, size_ext]; omega) (fun j e => by cases e; exact hgM), by rw [HTK.out]; exact HN2.out _ (HW6.out xq).2.1⟩, by simp [intOf]; omega⟩
    · obtain rfl : k = l.length := by omega
      rw [List.take_length] at HM
      clear hb hm
      obtain ⟨W1, rfl⟩ : ∃ W : World, W = wr := ⟨_, rfl⟩
      go_wp2_with fail
      go_loopw [11, 48] (fun v i wr => ∃ k : Nat, (k : Int) ≤ N ∧ i = .int .i64 k ∧ (∃ y, wr = ext W1 y) ∧ wr.ownsRow W1.heap.size 119 7 v (rodsTo l rs k).length (rcCells (rodsTo l rs k))) (fun _ i _ => N.toNat - (intOf i).toNat)
      case atStart => exact ⟨0, by omega, rfl, ext_of (Below.refl _ _), World.ownsRow_nil _ _ _ _⟩
      case round =>
        obtain ⟨k, hk, rfl, ⟨y, rfl⟩, hown⟩ := hrel
        have HO := Lib.hid hown
        obtain ⟨av, cv, rfl, hv1, hv2, -⟩ := own_shape hown
        have hv3 : cv ≤ 9223372036854775807 := hv2
        have hB1 := HB.out.trans ((below_ext W1 y).mono HB.out.size)
        have HB1 := Lib.hid hB1
        clear hown hB1
        by_cases hlt : (k : Int) < N
        · have q1 : (0 : Int) ≤ (k : Int) := by omega
          have q2 : (k : Int) < countS rs := by rw [HN.out]; exact hlt
          obtain ⟨g1, g2, r0, g3, g4⟩ := mark_of HV.out q1 q2
          have hsz := size_of HV.out q1 q2
          have HLG := Lib.hid (fun w hl hr => legsLaid_c l rs (.slice va l.length vc) u k w hl hr)
          rw [show legsE l rs k = (legsI l rs k, 0) by unfold legsE; rw [if_pos HV.out, if_pos ⟨q1, q2⟩]] at HLG
          have HMK := Lib.hid (fun w hl hr => mark_v l rs (.slice va l.length vc) u k _ _ g1 (by omega) w hl hr)
          have hms : (markI rs k).size ≤ 9223372036854775807 := by
            obtain ⟨a', cap', e', _, _, h6⟩ := (HR.out).shape
            obtain ⟨j, hj, ej⟩ := List.getElem_of_mem g3
            have := (h6 j hj).1
            rw [ej, g4] at this
            exact this
          have HLK := Lib.hid (show ∀ W, Below W1.heap.size W1 W → (Instr.lookup 144 (.map (some gM)) (.string (markI rs k)) false).run Tryz.prog W = .ok (.int .i64 (halfI (sizeI l rs k))) W from fun W hb => by
            have := (HM.out.below hb).look (markI rs k) hms
            rw [szOf_find halfF (laidB_iff.1 HV.out).1 g2] at this
            exact this)
          have HCS := Lib.hid (rodsTo_succ l rs k)
          have hca : rodsAt l rs k = (legsI l rs k).map fun b => ⟨b, halfI (sizeI l rs k)⟩ := rfl
          rw [hca] at HCS
          have HCL := Lib.hid (rodsTo_len l rs k)
          have hll : (legsI l rs k).length ≤ 6 := by
            have h2 := pathI_len l rs k
            have h3 : (legsI l rs k).length = (pathI l rs k).length - 1 := legsP_len _
            omega
          generalize rodsTo l rs k = CT at *
          generalize legsI l rs k = LG at *
          generalize markI rs k = MK at *
          generalize halfI (sizeI l rs k) = H at *
          clear g1 g2 g3 g4 hsz hca q2
          go_wp2_with fail
          go_at_call 120; refine (HMK.out _ ((HL.out.below HB1.out).below (by (repeat (first | exact grow_refl _ | refine grow_ext _ ?_ | refine grow_alloc _ ?_ | refine grow_drew ?_)))) ((HR.out.below HB1.out).below (by (repeat (first | exact grow_refl _ | refine grow_ext _ ?_ | refine grow_alloc _ ?_ | refine grow_drew ?_))))).mono ?_; rintro e w' ⟨rfl, y2, rfl⟩
          go_wp2_with fail
          go_at_call 121; refine (HLG.out _ ((HL.out.below HB1.out).below (by (repeat (first | exact grow_refl _ | refine grow_ext _ ?_ | refine grow_alloc _ ?_ | refine grow_drew ?_)))) ((HR.out.below HB1.out).below (by (repeat (first | exact grow_refl _ | refine grow_ext _ ?_ | refine grow_alloc _ ?_ | refine grow_drew ?_))))).mono ?_; rintro e w' ⟨v15, rfl, hown15, y1, rfl⟩
          have HO15 := Lib.hid (own_mono (base' := W1.heap.size) hown15 (by rw [size_ext, size_ext]; omega))
          obtain ⟨a15, c15, rfl, k15, m15, -⟩ := own_shape hown15
          have n15 : c15 ≤ 9223372036854775807 := m15
          clear hown15
          go_wp2_with fail
          refine world_mask (fun W => (∃ z, W = ext W1 z) ∧ W.ownsRow W1.heap.size 34 6 (.slice a15 LG.length c15) LG.length (boxCells LG) ∧ W.ownsRow W1.heap.size 119 7 (.slice av CT.length cv) CT.length (rcCells CT)) _ ⟨ext_of (by (repeat (first | exact grow_refl _ | refine grow_ext _ ?_ | refine grow_alloc _ ?_ | refine grow_drew ?_))), HO15.out, own_ext (own_ext HO.out _) _⟩ ?_
          clear HO15 HO
          rintro W2 ⟨hz, hbx, hro⟩
          go_loopw [11, 73] (fun v i wr => ∃ j : Nat, j ≤ LG.length ∧ i = .int .i64 j ∧ (∃ z, wr = ext W1 z) ∧ wr.ownsRow W1.heap.size 34 6 (.slice a15 LG.length c15) LG.length (boxCells LG) ∧ wr.ownsRow W1.heap.size 119 7 v (CT ++ (LG.take j).map fun b => (⟨b, H⟩ : Rc)).length (rcCells (CT ++ (LG.take j).map fun b => (⟨b, H⟩ : Rc)))) (fun _ i _ => LG.length - (intOf i).toNat)
          case atStart => exact ⟨0, by omega, rfl, hz, hbx, by simpa using hro⟩
          case round =>
            clear hro hz hbx
            obtain ⟨j, hj, rfl, ⟨z, rfl⟩, hbx4, hown4⟩ := hrel
            have HBX := Lib.hid hbx4
            obtain ⟨a', c', e', _, _, hbc⟩ := Boxes.of_own hbx4
            cases e'
            have HBC := Lib.hid hbc
            clear hbc hbx4
            have HO4 := Lib.hid hown4
            obtain ⟨av, cv, rfl, hv1, hv2, -⟩ := own_shape hown4
            have hv3 : cv ≤ 9223372036854775807 := hv2
            have hlb : (CT ++ (LG.take j).map fun b => (⟨b, H⟩ : Rc)).length ≤ 12006 := by
              rw [List.length_append, List.length_map, List.length_take]; have := HCL.out; omega
            clear hown4
            by_cases hltj : j < LG.length
            · have q5 : (0 : Int) ≤ (j : Int) := by omega
              have q6 : (j : Int) < (LG.length : Int) := by omega
              obtain ⟨b0, off, rfl, hbx⟩ := HBC.out j hltj
              have hft : CT ++ (LG.take (j + 1)).map (fun b => (⟨b, H⟩ : Rc)) = (CT ++ (LG.take j).map fun b => ⟨b, H⟩) ++ [⟨LG[j], H⟩] := by
                rw [List.take_succ_eq_append_getElem hltj, List.map_append, List.append_assoc]; rfl
              obtain ⟨b, hb⟩ : ∃ b, LG[j] = b := ⟨_, rfl⟩
              rw [hb] at hbx hft
              obtain ⟨c0, c1, c2, c3, c4, c5⟩ := hbx
              have HFT := Lib.hid hft
              generalize (CT ++ (LG.take j).map fun b => (⟨b, H⟩ : Rc)) = L at *
              have hlk := fun c => HLK.out ((ext W1 z).alloc c) (by (repeat (first | exact grow_refl _ | refine grow_ext _ ?_ | refine grow_alloc _ ?_ | refine grow_drew ?_)))
              clear hb hft
              go_wp2_with (at_builtin; refine app_own_b rfl _ _ 84 rfl 119 (.agg #[.int .i64 0, .int .i64 0, .int .i64 0, .int .i64 0, .int .i64 0, .int .i64 0, .int .i64 0]) 7 56 Tryz.underlying84 info_rd rfl (by decide) (W1.heap.size) (.slice av L.length cv) (L.length) (rcCells L) _ rfl ((HO4.out.alloc _).alloc _) _ 1 1 (rcCells [⟨b, H⟩]) rfl rfl (cells_new ?_ _ _ _ rfl) (rcCells_one _) (by omega) (by decide) ?_ ?_; (first | rfl | simp [size_ext]); (simp only [World.size_alloc, size_ext]; omega); intro v' w1 hown' hgrow; have HO2 := Lib.hid hown'; obtain ⟨a', c', rfl, _, hc2, -⟩ := own_shape hown'; have hc3 : c' ≤ 9223372036854775807 := hc2; have HGR := Lib.hid hgrow; clear hown' hgrow hc2)
              go_roundw
              case rel =>
                refine ⟨j + 1, by omega, by go_num, ?_, ?_, ?_⟩
                · exact ext_grown2 (grow_alloc _ (grow_alloc _ (below_ext _ _))) HGR.out (fun q e => (HO4.out.lt q e).1)
                · exact ((HBX.out.alloc _).alloc _).kept HGR.out (own_ne HBX.out HO4.out (by decide))
                · rw [HFT.out]
                  exact own_rcs HO2.out rfl
              case measure => simp [intOf]; omega
            · obtain rfl : j = LG.length := by omega
              rw [List.take_length] at HO4
              clear hlb
              go_wp2
              go_roundw
              case rel => exact ⟨k + 1, by omega, by go_num, ⟨_, rfl⟩, by rw [HCS.out]; simp only [List.take_length]; exact HO4.out⟩
              case measure => simp [intOf]; omega
        · obtain rfl : (k : Int) = N := by omega
          go_wp2
          go_ret2
          rw [HCI.out]
          exact ⟨_, rfl, own_mono HO.out HB.out.size, ext_of HB1.out⟩

set_option maxHeartbeats 2000000 in
theorem rods_c (l : List Br) (rs : List Rn) (v u : Value) (w : World) (hl : Bars w v l) (hr : Runs w u rs) :
    Calls Tryz.prog 86 #[v, u] w (RetRds w (rodsE l rs).1 (rodsE l rs).2) := by
  unfold rodsE
  cases hv : laidB l rs
  case true => rw [if_pos rfl]; exact rods_ok_c l rs v u hv w hl hr
  have HL := Lib.hid hl
  have HR := Lib.hid hr
  have HC := Lib.hid (fun w hl hr => count_c l rs v u w hl hr)
  rw [show countE l rs = (0, 1) by unfold countE; rw [hv]; rfl] at HC
  rw [if_neg (by decide)]
  clear hl hr hv
  go_enter Tryz.func86, Tryz.ntmps86
  go_wp2_with fail
  go_at_call 43; refine (HC.out _ (HL.out.below (by (repeat (first | exact grow_refl _ | refine grow_ext _ ?_ | refine grow_alloc _ ?_ | refine grow_drew ?_)))) (HR.out.below (by (repeat (first | exact grow_refl _ | refine grow_ext _ ?_ | refine grow_alloc _ ?_ | refine grow_drew ?_))))).mono ?_; rintro e w' ⟨rfl, x1, rfl⟩
  go_wp2
  go_ret2
  exact ⟨_, rfl, World.ownsRow_nil _ _ _ _, ext_of (by (repeat (first | exact grow_refl _ | refine grow_ext _ ?_ | refine grow_alloc _ ?_ | refine grow_drew ?_)))⟩

def givenP (q : Mb) (l : List Br) (rs : List Rn) : List Rc × Int := if okMb q = true then rodsE l rs else ([], 1)
set_option maxHeartbeats 2000000 in
theorem pgiven_c (q : Mb) (l : List Br) (rs : List Rn) (v u : Value) (w : World) (hq : MbAt w q) (hl : Bars w v l) (hr : Runs w u rs) :
    Calls Tryz.prog 53 #[(.agg #[.string q.name, q.u, q.t, .int .i64 q.cover, .int .i64 q.agg, .int .i64 q.poker]), v, u] w (RetRds w (givenP q l rs).1 (givenP q l rs).2) := by
  have HQ := Lib.hid hq
  have HL := Lib.hid hl
  have HR := Lib.hid hr
  have HM := Lib.hid (fun r h w hl hm => solidMember_v q.name q.l q.m q.u q.t q.cover q.agg q.poker r h hq.name w hl hm)
  unfold givenP okMb
  clear hq hl hr
  cases hm : memberB q.name q.l q.m q.cover q.agg q.poker
  · have H1 := Lib.hid hm
    simp only [Bool.false_eq_true, if_false]
    clear hm
    go_enter Tryz.func53, Tryz.ntmps53
    go_wp2_with fail
    go_at_call 49; refine (HM.out _ H1.out _ (HQ.out.boxes.below (by (repeat (first | exact grow_refl _ | refine grow_ext _ ?_ | refine grow_alloc _ ?_ | refine grow_drew ?_)))) (HQ.out.holes.below (by (repeat (first | exact grow_refl _ | refine grow_ext _ ?_ | refine grow_alloc _ ?_ | refine grow_drew ?_))))).mono ?_; rintro e w' ⟨rfl, x1, rfl⟩
    go_wp2
    go_ret2
    exact ⟨_, rfl, World.ownsRow_nil _ _ _ _, ext_of (by (repeat (first | exact grow_refl _ | refine grow_ext _ ?_ | refine grow_alloc _ ?_ | refine grow_drew ?_)))⟩
  · have H1 := Lib.hid hm
    have HRD := Lib.hid (fun w hl hr => rods_c l rs v u w hl hr)
    simp only [if_true]
    generalize (rodsE l rs).1 = R at *
    generalize (rodsE l rs).2 = E at *
    clear hm
    go_enter Tryz.func53, Tryz.ntmps53
    go_wp2_with fail
    go_at_call 49; refine (HM.out _ H1.out _ (HQ.out.boxes.below (by (repeat (first | exact grow_refl _ | refine grow_ext _ ?_ | refine grow_alloc _ ?_ | refine grow_drew ?_)))) (HQ.out.holes.below (by (repeat (first | exact grow_refl _ | refine grow_ext _ ?_ | refine grow_alloc _ ?_ | refine grow_drew ?_))))).mono ?_; rintro e w' ⟨rfl, x1, rfl⟩
    go_wp2_with fail
    go_at_call 86; refine (HRD.out _ (HL.out.below (by (repeat (first | exact grow_refl _ | refine grow_ext _ ?_ | refine grow_alloc _ ?_ | refine grow_drew ?_)))) (HR.out.below (by (repeat (first | exact grow_refl _ | refine grow_ext _ ?_ | refine grow_alloc _ ?_ | refine grow_drew ?_))))).mono ?_; rintro e w' ⟨v2, rfl, hown, x2, rfl⟩
    have HO := Lib.hid hown
    obtain ⟨a2, c2, rfl, k2, m2, -⟩ := own_shape hown
    clear hown
    go_wp2
    go_ret2
    exact ⟨_, rfl, own_mono HO.out (by simp only [size_ext, World.size_alloc]; omega), ext_of (by (repeat (first | exact grow_refl _ | refine grow_ext _ ?_ | refine grow_alloc _ ?_ | refine grow_drew ?_)))⟩

end Go.Proofs.YtmoechhfjmemaaaGreat

namespace Go.Proofs.YtmoechhfjmemaaaGreat
open Go.RowKit
set_option maxRecDepth 20000

set_option maxHeartbeats 1000000 in
theorem free1_c (r : Rc) (c : Bx) (g : Nat) (hr : validB r.box = true) (hc : validB c = true) (w : World) (hg : BoxAt w g 0 c) :
    Calls Tryz.prog 88 #[(.agg #[.int .i64 r.box.lx, .int .i64 r.box.ly, .int .i64 r.box.lz, .int .i64 r.box.hx, .int .i64 r.box.hy, .int .i64 r.box.hz, .int .i64 r.bar]), .pointer (some ⟨g, 0, none⟩)] w (Ret w (.bool (decide (gapI r.box c < r.bar)))) := by
  obtain ⟨g0, g1, g2, g3, g4, g5⟩ := hg
  have HG := Lib.hid (fun w => Gap_ok r.box c hr hc w)
  generalize gapI r.box c = G at *
  clear hr hc
  go_enter Tryz.func88, Tryz.ntmps88
  go_wp2_with fail
  go_at_call 89; refine (HG.out _).mono ?_; rintro e w' ⟨rfl, x1, rfl⟩
  go_wp2
  go_ret
  exact Ret.of (by (repeat (first | exact grow_refl _ | refine grow_ext _ ?_ | refine grow_alloc _ ?_ | refine grow_drew ?_)))
theorem enters_free1 : Enters 88 := enters_of Tryz.func88 (by decide) (by simp [Tryz.f88])

theorem clear_any (c : Bx) (R : List Rc) : (!(R.any fun r => decide (gapI r.box c < r.bar))) = clearB c R := by
  unfold clearB
  rw [List.not_any_eq_all_not]
  congr 1
  funext r
  rw [← decide_not]
  apply decide_eq_decide.2
  omega

set_option maxHeartbeats 2000000 in
theorem pfree_v (q : Mb) (R : List Rc) (p : Pt) (v : Value) (r : Bool) (h : freeR q R p = r) (hk : TipOk q p) (hR : ∀ x ∈ R, RodOk x) (w : World) (hq : MbAt w q) (hv : Rcs w v R) :
    Calls Tryz.prog 54 #[(.agg #[.string q.name, q.u, q.t, .int .i64 q.cover, .int .i64 q.agg, .int .i64 q.poker]), v, (.agg #[.int .i64 p.x, .int .i64 p.y, .int .i64 p.z])] w (Ret w (.bool r)) := by
  have HQ := Lib.hid hq
  have HV := Lib.hid hv
  have HCO := Lib.hid (fun w hq => pcolumn_c q p hk w hq)
  have hs := hk.solid
  unfold freeR at h
  generalize colX q p = C at *
  clear hq hv hk
  cases hc : validB C
  · rw [hc, Bool.false_and] at h
    subst h
    have HC := Lib.hid hc
    clear hc hs hR
    go_enter Tryz.func54, Tryz.ntmps54
    go_wp2_with fail
    go_at_call 52; refine (HCO.out _ (HQ.out.below (by (repeat (first | exact grow_refl _ | refine grow_ext _ ?_ | refine grow_alloc _ ?_ | refine grow_drew ?_))))).mono ?_; rintro e w' ⟨rfl, x1, rfl⟩
    go_wp2_with fail
    go_at_call 71; refine (valid_v C _ HC.out _).mono ?_; rintro e w' ⟨rfl, x2, rfl⟩
    go_wp2
    go_ret
    exact Ret.of (by (repeat (first | exact grow_refl _ | refine grow_ext _ ?_ | refine grow_alloc _ ?_ | refine grow_drew ?_)))
  rw [hc, Bool.true_and] at h
  have HC := Lib.hid hc
  have HS := Lib.hid (fun (b : Bool) (e : containsS q.l q.m C = b) w hl hm => solidContains_v q.l q.m q.u q.t C (b, 0) (by unfold containsR17; rw [if_pos ⟨hs, hc⟩, e]) w hl hm)
  cases hi : containsS q.l q.m C
  · rw [hi, Bool.false_and] at h
    subst h
    have HI := Lib.hid (HS.out _ hi)
    clear hc hs hR hi
    go_enter Tryz.func54, Tryz.ntmps54
    go_wp2_with fail
    go_at_call 52; refine (HCO.out _ (HQ.out.below (by (repeat (first | exact grow_refl _ | refine grow_ext _ ?_ | refine grow_alloc _ ?_ | refine grow_drew ?_))))).mono ?_; rintro e w' ⟨rfl, x1, rfl⟩
    go_wp2_with fail
    go_at_call 71; refine (valid_v C _ HC.out _).mono ?_; rintro e w' ⟨rfl, x2, rfl⟩
    go_wp2_with fail
    go_at_call 26; refine (HI.out _ (HQ.out.boxes.below (by (repeat (first | exact grow_refl _ | refine grow_ext _ ?_ | refine grow_alloc _ ?_ | refine grow_drew ?_)))) (HQ.out.holes.below (by (repeat (first | exact grow_refl _ | refine grow_ext _ ?_ | refine grow_alloc _ ?_ | refine grow_drew ?_))))).mono ?_; rintro e w' ⟨rfl, x3, rfl⟩
    go_wp2
    go_ret
    exact Ret.of (by (repeat (first | exact grow_refl _ | refine grow_ext _ ?_ | refine grow_alloc _ ?_ | refine grow_drew ?_)))
  rw [hi, Bool.true_and] at h
  have HI := Lib.hid (HS.out _ hi)
  have HA := Lib.hid (show (!(R.any fun r => decide (gapI r.box C < r.bar))) = r from (clear_any C R).trans h)
  have H1 := Lib.hid (fun b g w (hb : b ∈ R) hg => free1_c b C g (hR b hb).1 hc w hg)
  clear hc hs hR hi h HS
  go_enter Tryz.func54, Tryz.ntmps54
  go_wp2_with fail
  go_at_call 52; refine (HCO.out _ (HQ.out.below (by (repeat (first | exact grow_refl _ | refine grow_ext _ ?_ | refine grow_alloc _ ?_ | refine grow_drew ?_))))).mono ?_; rintro e w' ⟨rfl, x1, rfl⟩
  go_wp2_with fail
  go_at_call 71; refine (valid_v C _ HC.out _).mono ?_; rintro e w' ⟨rfl, x2, rfl⟩
  go_wp2_with fail
  go_at_call 26; refine (HI.out _ (HQ.out.boxes.below (by (repeat (first | exact grow_refl _ | refine grow_ext _ ?_ | refine grow_alloc _ ?_ | refine grow_drew ?_)))) (HQ.out.holes.below (by (repeat (first | exact grow_refl _ | refine grow_ext _ ?_ | refine grow_alloc _ ?_ | refine grow_drew ?_))))).mono ?_; rintro e w' ⟨rfl, x3, rfl⟩
  go_wp2_with fail
  obtain ⟨g7, hg7⟩ : ∃ g, g = w.heap.size + 1 + 1 + x1.heap.size := ⟨_, rfl⟩
  rw [← hg7]
  go_at_call 87
  refine (containsFunc_cRd _ enters_free1 #[.pointer (some ⟨g7, 0, none⟩)] (fun r => decide (gapI r.box C < r.bar)) R v _ (HV.out.below (by (repeat (first | exact grow_refl _ | refine grow_ext _ ?_ | refine grow_alloc _ ?_ | refine grow_drew ?_)))) (fun b x hb => H1.out b g7 _ hb (by rw [hg7]; simp [BoxAt, go_sem]))).mono ?_
  rintro e w' ⟨rfl, x4, rfl⟩
  have ha := HA.out
  generalize (R.any fun r => decide (gapI r.box C < r.bar)) = A at *
  go_wp2
  go_ret
  exact Ret.of (by (repeat (first | exact grow_refl _ | refine grow_ext _ ?_ | refine grow_alloc _ ?_ | refine grow_drew ?_)))

set_option maxHeartbeats 2000000 in
theorem pFree_v (q : Mb) (l : List Br) (rs : List Rn) (p : Pt) (v u : Value) (B : Bool) (E : Int) (h : freeE q l rs p = (B, E)) (w : World) (hq : MbAt w q) (hl : Bars w v l) (hr : Runs w u rs) :
    Calls Tryz.prog 14 #[(.agg #[.string q.name, q.u, q.t, .int .i64 q.cover, .int .i64 q.agg, .int .i64 q.poker]), v, u, (.agg #[.int .i64 p.x, .int .i64 p.y, .int .i64 p.z])] w (Ret w (.tuple #[.bool B, .int .i64 E])) := by
  have HQ := Lib.hid hq
  have HL := Lib.hid hl
  have HR := Lib.hid hr
  have HG := Lib.hid (fun w hq hl hr => pgiven_c q l rs v u w hq hl hr)
  unfold freeE at h
  clear hq hl hr
  by_cases hok : okMb q = true ∧ laidB l rs = true
  case neg =>
    rw [if_neg hok] at h
    cases h
    rw [show givenP q l rs = ([], 1) by
      unfold givenP rodsE
      by_cases hm : okMb q = true
      · rw [if_pos hm, if_neg (fun hv => hok ⟨hm, hv⟩)]
      · rw [if_neg hm]] at HG
    clear hok
    go_enter Tryz.func14, Tryz.ntmps14
    go_wp2_with fail
    go_at_call 53; refine (HG.out _ (HQ.out.below (by (repeat (first | exact grow_refl _ | refine grow_ext _ ?_ | refine grow_alloc _ ?_ | refine grow_drew ?_)))) (HL.out.below (by (repeat (first | exact grow_refl _ | refine grow_ext _ ?_ | refine grow_alloc _ ?_ | refine grow_drew ?_)))) (HR.out.below (by (repeat (first | exact grow_refl _ | refine grow_ext _ ?_ | refine grow_alloc _ ?_ | refine grow_drew ?_))))).mono ?_; rintro e w' ⟨v2, rfl, hown, x1, rfl⟩
    obtain ⟨a2, c2, rfl, -, -, -⟩ := own_shape hown
    clear hown
    go_wp2
    go_ret2
    exact Ret.of (by (repeat (first | exact grow_refl _ | refine grow_ext _ ?_ | refine grow_alloc _ ?_ | refine grow_drew ?_)))
  rw [if_pos hok] at h
  obtain ⟨hm, hv⟩ := hok
  rw [show givenP q l rs = (rodsI l rs, 0) by unfold givenP rodsE; rw [if_pos hm, if_pos hv]] at HG
  have HT := Lib.hid (fun w hq => ptop_c q (okMb_facts hm).1 w hq)
  cases hn : nearB p 1048576
  · rw [show tipB q p = false by unfold tipB; rw [hn]; rfl] at h
    simp only [Bool.false_eq_true, if_false] at h
    cases h
    have HN := Lib.hid hn
    clear hm hn hv
    go_enter Tryz.func14, Tryz.ntmps14
    go_wp2_with fail
    go_at_call 53; refine (HG.out _ (HQ.out.below (by (repeat (first | exact grow_refl _ | refine grow_ext _ ?_ | refine grow_alloc _ ?_ | refine grow_drew ?_)))) (HL.out.below (by (repeat (first | exact grow_refl _ | refine grow_ext _ ?_ | refine grow_alloc _ ?_ | refine grow_drew ?_)))) (HR.out.below (by (repeat (first | exact grow_refl _ | refine grow_ext _ ?_ | refine grow_alloc _ ?_ | refine grow_drew ?_))))).mono ?_; rintro e w' ⟨v2, rfl, hown, x1, rfl⟩
    obtain ⟨a2, c2, rfl, -, -, -⟩ := own_shape hown
    clear hown
    go_wp2_with fail
    refine wp_region_grows (by kernel_rfl) (by kernel_rfl) ?_
    repeat (go_big_quiet_step ((go_at_call 50; exact Calls.quiet_ext (pright_v p _ HN.out _))))
    refine wpQuiet_nil ?_; rintro _ ⟨xq, rfl⟩
    go_wp2
    go_ret2
    exact Ret.of (by (repeat (first | exact grow_refl _ | refine grow_ext _ ?_ | refine grow_alloc _ ?_ | refine grow_drew ?_)))
  have HN := Lib.hid hn
  have HF := Lib.hid (fun v w hq hv' => pfree_v q (rodsI l rs) p v _ rfl (tip_ok hm hn) (rods_ok hv) w hq hv')
  have ht : tipB q p = decide (p.z ≤ topI q) := by unfold tipB; rw [hn, Bool.true_and]
  rw [ht] at h
  generalize topI q = T at *
  generalize freeR q (rodsI l rs) p = F at *
  generalize rodsI l rs = R at *
  clear hm hn ht hv
  by_cases hz : p.z ≤ T
  · rw [if_pos (decide_eq_true hz)] at h
    cases h
    have d1 : decide (T < p.z) = false := by simp; omega
    clear hz
    go_enter Tryz.func14, Tryz.ntmps14
    go_wp2_with fail
    go_at_call 53; refine (HG.out _ (HQ.out.below (by (repeat (first | exact grow_refl _ | refine grow_ext _ ?_ | refine grow_alloc _ ?_ | refine grow_drew ?_)))) (HL.out.below (by (repeat (first | exact grow_refl _ | refine grow_ext _ ?_ | refine grow_alloc _ ?_ | refine grow_drew ?_)))) (HR.out.below (by (repeat (first | exact grow_refl _ | refine grow_ext _ ?_ | refine grow_alloc _ ?_ | refine grow_drew ?_))))).mono ?_; rintro e w' ⟨v2, rfl, hown, x1, rfl⟩
    have HO := Lib.hid (Rcs.of_own hown)
    obtain ⟨a2, c2, rfl, -, -, -⟩ := own_shape hown
    clear hown
    go_wp2_with fail
    refine wp_region_grows (by kernel_rfl) (by kernel_rfl) ?_
    repeat (go_big_quiet_step ((first | (go_at_call 50; exact Calls.quiet_ext (pright_v p _ HN.out _)) | (go_at_call 51; exact Calls.quiet_ext (HT.out _ (HQ.out.below (by (repeat (first | exact grow_refl _ | refine grow_ext _ ?_ | refine grow_alloc _ ?_ | refine grow_drew ?_)))))))))
    refine wpQuiet_nil ?_; rintro _ ⟨xq, rfl⟩
    go_wp2_with fail
    go_at_call 54; refine (HF.out _ _ (HQ.out.below (by (repeat (first | exact grow_refl _ | refine grow_ext _ ?_ | refine grow_alloc _ ?_ | refine grow_drew ?_)))) (HO.out.below (by (repeat (first | exact grow_refl _ | refine grow_ext _ ?_ | refine grow_alloc _ ?_ | refine grow_drew ?_))))).mono ?_; rintro e w' ⟨rfl, x2, rfl⟩
    go_wp2
    go_ret2
    exact Ret.of (by (repeat (first | exact grow_refl _ | refine grow_ext _ ?_ | refine grow_alloc _ ?_ | refine grow_drew ?_)))
  · rw [if_neg (by simpa using hz)] at h
    cases h
    have d1 : decide (T < p.z) = true := by simp; omega
    clear hz
    go_enter Tryz.func14, Tryz.ntmps14
    go_wp2_with fail
    go_at_call 53; refine (HG.out _ (HQ.out.below (by (repeat (first | exact grow_refl _ | refine grow_ext _ ?_ | refine grow_alloc _ ?_ | refine grow_drew ?_)))) (HL.out.below (by (repeat (first | exact grow_refl _ | refine grow_ext _ ?_ | refine grow_alloc _ ?_ | refine grow_drew ?_)))) (HR.out.below (by (repeat (first | exact grow_refl _ | refine grow_ext _ ?_ | refine grow_alloc _ ?_ | refine grow_drew ?_))))).mono ?_; rintro e w' ⟨v2, rfl, hown, x1, rfl⟩
    obtain ⟨a2, c2, rfl, -, -, -⟩ := own_shape hown
    clear hown
    go_wp2_with fail
    refine wp_region_grows (by kernel_rfl) (by kernel_rfl) ?_
    repeat (go_big_quiet_step ((first | (go_at_call 50; exact Calls.quiet_ext (pright_v p _ HN.out _)) | (go_at_call 51; exact Calls.quiet_ext (HT.out _ (HQ.out.below (by (repeat (first | exact grow_refl _ | refine grow_ext _ ?_ | refine grow_alloc _ ?_ | refine grow_drew ?_)))))))))
    refine wpQuiet_nil ?_; rintro _ ⟨xq, rfl⟩
    go_wp2
    go_ret2
    exact Ret.of (by (repeat (first | exact grow_refl _ | refine grow_ext _ ?_ | refine grow_alloc _ ?_ | refine grow_drew ?_)))

theorem away_c (a b : Int) (ha : -1048576 ≤ a ∧ a ≤ 1048576) (hb : -1048576 ≤ b ∧ b ≤ 1048576) (w : World) : Calls Tryz.prog 106 #[.int .i64 a, .int .i64 b] w (Ret w (.int .i64 (max (a - b) (b - a)))) := by
  go_enter Tryz.func106, Tryz.ntmps106
  go_wp2
  go_ret
  exact Ret.of (by (repeat (first | exact grow_refl _ | refine grow_ext _ ?_ | refine grow_alloc _ ?_ | refine grow_drew ?_)))

set_option maxHeartbeats 2000000 in
theorem reached1_c (p q : Pt) (reach : Int) (g1 g2 : Nat) (hp : NearP p 1048576) (hq : NearP q 1048576) (hr : 0 ≤ reach ∧ reach ≤ 1048576) (w : World) (c1 : PtAt w g1 0 p) (c2 : w.cell? ⟨g2, 0, none⟩ = some (.int .i64 reach)) :
    Calls Tryz.prog 105 #[(.agg #[.int .i64 q.x, .int .i64 q.y, .int .i64 q.z]), .pointer (some ⟨g1, 0, none⟩), .pointer (some ⟨g2, 0, none⟩)] w (Ret w (.bool (inReach reach p q))) := by
  obtain ⟨p1, p2, p3⟩ := hp
  obtain ⟨q1, q2, q3⟩ := hq
  obtain ⟨n0, n1, n2⟩ := c1
  simp only [Nat.zero_add] at n1 n2
  have HX := Lib.hid (fun w => away_c p.x q.x p1 q1 w)
  have HY := Lib.hid (fun w => away_c p.y q.y p2 q2 w)
  have HE := Lib.hid (show inReach reach p q = (decide (max (p.x - q.x) (q.x - p.x) ≤ reach) && (decide (max (p.y - q.y) (q.y - p.y) ≤ reach) && decide (q.z - reach ≤ p.z))) from rfl)
  have e3 : -2097152 ≤ q.z - reach ∧ q.z - reach ≤ 2097152 := by omega
  obtain ⟨px, py, pz⟩ := p
  obtain ⟨qx, qy, qz⟩ := q
  simp only at *
  generalize max (px - qx) (qx - px) = X at *
  generalize max (py - qy) (qy - py) = Y at *
  cases d1 : decide (X ≤ reach)
  · rw [d1, Bool.false_and] at HE
    clear p1 p2 p3 q1 q2 q3
    go_enter Tryz.func105, Tryz.ntmps105
    go_wp2_with fail
    refine wp_region_grows (by kernel_rfl) (by kernel_rfl) ?_
    repeat (go_big_quiet_step ((go_at_call_of 106 (Value.int .i64 px); exact Calls.quiet_ext (HX.out _))))
    refine wpQuiet_nil ?_; rintro _ ⟨xq, rfl⟩
    go_wp2
    go_ret
    rw [HE.out]
    exact Ret.of (by (repeat (first | exact grow_refl _ | refine grow_ext _ ?_ | refine grow_alloc _ ?_ | refine grow_drew ?_)))
  rw [d1, Bool.true_and] at HE
  cases d2 : decide (Y ≤ reach)
  · rw [d2, Bool.false_and] at HE
    clear p1 p2 p3 q1 q2 q3
    go_enter Tryz.func105, Tryz.ntmps105
    go_wp2_with fail
    refine wp_region_grows (by kernel_rfl) (by kernel_rfl) ?_
    repeat (go_big_quiet_step ((first | (go_at_call_of 106 (Value.int .i64 px); exact Calls.quiet_ext (HX.out _)) | (go_at_call_of 106 (Value.int .i64 py); exact Calls.quiet_ext (HY.out _)))))
    refine wpQuiet_nil ?_; rintro _ ⟨xq, rfl⟩
    go_wp2
    go_ret
    rw [HE.out]
    exact Ret.of (by (repeat (first | exact grow_refl _ | refine grow_ext _ ?_ | refine grow_alloc _ ?_ | refine grow_drew ?_)))
  rw [d2, Bool.true_and] at HE
  obtain ⟨b, d3⟩ : ∃ b, decide (qz - reach ≤ pz) = b := ⟨_, rfl⟩
  rw [d3] at HE
  clear p1 p2 p3 q1 q2
  go_enter Tryz.func105, Tryz.ntmps105
  go_wp2_with fail
  refine wp_region_grows (by kernel_rfl) (by kernel_rfl) ?_
  repeat (go_big_quiet_step ((first | (go_at_call_of 106 (Value.int .i64 px); exact Calls.quiet_ext (HX.out _)) | (go_at_call_of 106 (Value.int .i64 py); exact Calls.quiet_ext (HY.out _)))))
  refine wpQuiet_nil ?_; rintro _ ⟨xq, rfl⟩
  go_wp2
  go_ret
  rw [HE.out]
  exact Ret.of (by (repeat (first | exact grow_refl _ | refine grow_ext _ ?_ | refine grow_alloc _ ?_ | refine grow_drew ?_)))
theorem enters_reached1 : Enters 105 := enters_of Tryz.func105 (by decide) (by simp [Tryz.f105])

set_option maxHeartbeats 2000000 in
theorem reached_c (l : List Pt) (v : Value) (reach : Int) (p : Pt) (hp : NearP p 1048576) (hn : ∀ q ∈ l, NearP q 1048576) (hr : 0 ≤ reach ∧ reach ≤ 1048576) (w : World) (hv : Pts w v l) :
    Calls Tryz.prog 67 #[v, .int .i64 reach, (.agg #[.int .i64 p.x, .int .i64 p.y, .int .i64 p.z])] w (Ret w (.bool (reachedB l reach p))) := by
  have HV := Lib.hid hv
  have H1 := Lib.hid (fun q g1 g2 w (hq : q ∈ l) c1 c2 => reached1_c p q reach g1 g2 hp (hn q hq) hr w c1 c2)
  have HE := Lib.hid (show reachedB l reach p = l.any (inReach reach p) from rfl)
  clear hv hp hn hr
  go_enter Tryz.func67, Tryz.ntmps67
  go_wp2_with fail
  go_at_call 22
  refine (containsFunc_cPt _ enters_reached1 #[.pointer (some ⟨w.heap.size + 1, 0, none⟩), .pointer (some ⟨w.heap.size, 0, none⟩)] (inReach reach p) l v _ (HV.out.below (by (repeat (first | exact grow_refl _ | refine grow_ext _ ?_ | refine grow_alloc _ ?_ | refine grow_drew ?_)))) (fun b x hb => H1.out b (w.heap.size + 1) w.heap.size _ hb (by simp [PtAt, go_sem]) (by simp [go_sem]))).mono ?_
  rintro e w' ⟨rfl, x4, rfl⟩
  have he := HE.out
  generalize l.any (inReach reach p) = A at *
  go_wp2
  go_ret
  rw [he]
  exact Ret.of (by (repeat (first | exact grow_refl _ | refine grow_ext _ ?_ | refine grow_alloc _ ?_ | refine grow_drew ?_)))

theorem pright1_c (p : Pt) (w : World) : Calls Tryz.prog 66 #[(.agg #[.int .i64 p.x, .int .i64 p.y, .int .i64 p.z])] w (Ret w (.bool (!nearB p 1048576))) := by
  have HR := Lib.hid (fun w => pright_v p _ rfl w)
  generalize nearB p 1048576 = b at *
  go_enter Tryz.func66, Tryz.ntmps66
  go_wp2_with fail
  go_at_call 50; refine (HR.out _).mono ?_; rintro e w' ⟨rfl, x1, rfl⟩
  go_wp2
  go_ret
  exact Ret.of (by (repeat (first | exact grow_refl _ | refine grow_ext _ ?_ | refine grow_alloc _ ?_ | refine grow_drew ?_)))
theorem enters_right1 : Enters 66 := enters_of Tryz.func66 (by decide) (by simp [Tryz.f66])

set_option maxHeartbeats 2000000 in
theorem pReached_v (l : List Pt) (v : Value) (reach : Int) (p : Pt) (B : Bool) (E : Int) (h : reachedE l reach p = (B, E)) (w : World) (hv : Pts w v l) :
    Calls Tryz.prog 21 #[v, .int .i64 reach, (.agg #[.int .i64 p.x, .int .i64 p.y, .int .i64 p.z])] w (Ret w (.tuple #[.bool B, .int .i64 E])) := by
  obtain ⟨a, cap, rfl, c1, c2, -⟩ := hv.shape
  have HV := Lib.hid hv
  unfold reachedE at h
  clear hv
  by_cases h0 : 5000 < l.length
  · rw [if_pos h0] at h
    cases h
    have d0 : decide ((5000 : Int) < (l.length : Int)) = true := by simp; omega
    clear h0
    go_enter Tryz.func21, Tryz.ntmps21
    go_wp2
    go_ret2
    exact Ret.of (by (repeat (first | exact grow_refl _ | refine grow_ext _ ?_ | refine grow_alloc _ ?_ | refine grow_drew ?_)))
  rw [if_neg h0] at h
  have d0 : decide ((5000 : Int) < (l.length : Int)) = false := by simp; omega
  clear h0
  cases hn : nearB p 1048576
  · rw [hn, if_neg (by simp)] at h
    cases h
    have HN := Lib.hid hn
    clear hn
    go_enter Tryz.func21, Tryz.ntmps21
    go_wp2_with fail
    go_at_call 50; refine (pright_v p _ HN.out _).mono ?_; rintro e w' ⟨rfl, x1, rfl⟩
    go_wp2
    go_ret2
    exact Ret.of (by (repeat (first | exact grow_refl _ | refine grow_ext _ ?_ | refine grow_alloc _ ?_ | refine grow_drew ?_)))
  rw [hn] at h
  have HN := Lib.hid hn
  by_cases hr0 : 0 ≤ reach
  case neg =>
    rw [if_neg (by omega)] at h
    cases h
    have d1 : decide (reach < 0) = true := by simp; omega
    clear hn hr0
    go_enter Tryz.func21, Tryz.ntmps21
    go_wp2_with fail
    go_at_call 50; refine (pright_v p _ HN.out _).mono ?_; rintro e w' ⟨rfl, x1, rfl⟩
    go_wp2
    go_ret2
    exact Ret.of (by (repeat (first | exact grow_refl _ | refine grow_ext _ ?_ | refine grow_alloc _ ?_ | refine grow_drew ?_)))
  have d1 : decide (reach < 0) = false := by simp; omega
  by_cases hr1 : reach ≤ 1048576
  case neg =>
    rw [if_neg (by omega)] at h
    cases h
    have d2 : decide (1048576 < reach) = true := by simp; omega
    clear hn hr0 hr1
    go_enter Tryz.func21, Tryz.ntmps21
    go_wp2_with fail
    go_at_call 50; refine (pright_v p _ HN.out _).mono ?_; rintro e w' ⟨rfl, x1, rfl⟩
    go_wp2
    go_ret2
    exact Ret.of (by (repeat (first | exact grow_refl _ | refine grow_ext _ ?_ | refine grow_alloc _ ?_ | refine grow_drew ?_)))
  have d2 : decide (1048576 < reach) = false := by simp; omega
  have HR := Lib.hid (⟨hr0, hr1⟩ : 0 ≤ reach ∧ reach ≤ 1048576)
  have H1 := Lib.hid (show ∀ (b : Pt) (W : World), Calls Tryz.prog 66 (#[(.agg #[.int .i64 b.x, .int .i64 b.y, .int .i64 b.z])] ++ #[]) W (Ret W (.bool (!nearB b 1048576))) from fun b W => pright1_c b W)
  have hany : (l.any fun q => !nearB q 1048576) = !(l.all fun q => nearB q 1048576) := by rw [List.not_all_eq_any_not]
  cases ha : l.all fun q => nearB q 1048576
  · rw [ha, if_neg (by simp)] at h
    cases h
    rw [ha] at hany
    have HA := Lib.hid hany
    clear hn hr0 hr1 hany ha
    go_enter Tryz.func21, Tryz.ntmps21
    go_wp2_with fail
    go_at_call 50; refine (pright_v p _ HN.out _).mono ?_; rintro e w' ⟨rfl, x1, rfl⟩
    go_wp2_with fail
    go_at_call 22
    refine (containsFunc_cPt _ enters_right1 #[] (fun q => !nearB q 1048576) l _ _ (HV.out.below (by (repeat (first | exact grow_refl _ | refine grow_ext _ ?_ | refine grow_alloc _ ?_ | refine grow_drew ?_)))) (fun b x _ => H1.out b _)).mono ?_
    rintro e w' ⟨rfl, x4, rfl⟩
    rw [HA.out]
    go_wp2
    go_ret2
    exact Ret.of (by (repeat (first | exact grow_refl _ | refine grow_ext _ ?_ | refine grow_alloc _ ?_ | refine grow_drew ?_)))
  · rw [ha, if_pos ⟨rfl, hr0, hr1, rfl⟩] at h
    cases h
    rw [ha] at hany
    have HA := Lib.hid hany
    have HRE := Lib.hid (fun w hv => reached_c l (.slice a l.length cap) reach p (near_iff.1 hn) (fun q hq => near_iff.1 (List.all_eq_true.1 ha q hq)) HR.out w hv)
    generalize reachedB l reach p = B at *
    clear hn hr0 hr1 hany ha
    go_enter Tryz.func21, Tryz.ntmps21
    go_wp2_with fail
    go_at_call 50; refine (pright_v p _ HN.out _).mono ?_; rintro e w' ⟨rfl, x1, rfl⟩
    go_wp2_with fail
    go_at_call 22
    refine (containsFunc_cPt _ enters_right1 #[] (fun q => !nearB q 1048576) l _ _ (HV.out.below (by (repeat (first | exact grow_refl _ | refine grow_ext _ ?_ | refine grow_alloc _ ?_ | refine grow_drew ?_)))) (fun b x _ => H1.out b _)).mono ?_
    rintro e w' ⟨rfl, x4, rfl⟩
    rw [HA.out]
    go_wp2_with fail
    go_at_call 67; refine (HRE.out _ (HV.out.below (by (repeat (first | exact grow_refl _ | refine grow_ext _ ?_ | refine grow_alloc _ ?_ | refine grow_drew ?_))))).mono ?_; rintro e w' ⟨rfl, x2, rfl⟩
    go_wp2
    go_ret2
    exact Ret.of (by (repeat (first | exact grow_refl _ | refine grow_ext _ ?_ | refine grow_alloc _ ?_ | refine grow_drew ?_)))

end Go.Proofs.YtmoechhfjmemaaaGreat

