/- GapK4, TsA, SzMap, Yield in one text. -/
import Derived.Test.YtkjljneehgmmaaaGreatAaK1
import Derived.Test.YtkjljneehgmmaaaGreatExtK
import Derived.Test.YtkjljneehgmmaaaGreatAaK5
import Derived.Test.YtkjljneehgmmaaaGreatNameK
import Derived.Test.YtkjljneehgmmaaaGreatBoxK2
import Derived.Test.YtkjljneehgmmaaaGreatAaK4
import Derived.Test.YtkjljneehgmmaaaGreatLaidK3
import Derived.Maps.Own
import Derived.Maps.Views
import Derived.Test.YtkjljneehgmmaaaGreatBoxK
import Derived.RangeFuncFrom
import Derived.RangeFuncNested
import Derived.RangeFuncBound
import Derived.RangeFuncCalls
import Derived.RangeFuncLeaves
import Derived.OwnWalkIn
import Derived.TacticsInMore
namespace Go.Proofs.YtkjljneehgmmaaaGreat
set_option linter.unusedVariables false
set_option linter.unusedSimpArgs false
open Go.RowKit
set_option maxRecDepth 20000

def areaI (d : Int) : Int := (7854 * d * d + 50) / 100
theorem areaSt_c (d r : Int) (h : sizeB d = true) (hr : areaI d = r) (w : World) : Calls Tryz.prog 218 #[.int .i64 d] w (Ret w (.int .i64 r)) := by
 unfold areaI at hr
 rcases size_iff.1 h with rfl | rfl | rfl | rfl | rfl | rfl | rfl | rfl | rfl
 all_goals
  simp at hr
  subst hr
  clear h
  go_enter Tryz.func218, Tryz.ntmps218
  go_wp2
  go_ret
  exact Ret.of gro
theorem area1_c (d r : Int) (h : sizeB d = true) (hr : areaI d = r) (g : Nat) (w : World) (hg : w.cell? ⟨g, 0, none⟩ = some (.int .i64 d)) : Calls Tryz.prog 217 #[.pointer (some ⟨g, 0, none⟩)] w (Ret w (.int .i64 r)) := by
 have HA := hd0 (fun w => areaSt_c d r h hr w)
 clear h hr
 go_enter Tryz.func217, Tryz.ntmps217
 go_wp2_with fail
 go_at_call 218; refine (HA.out _).mono ?_; rintro e w' ⟨rfl, x1, rfl⟩
 go_wp2
 go_ret
 exact Ret.of gro
theorem enters_area1 : Enters 217 := enters_of Tryz.func217 (by decide) (by simp [Tryz.f217])
theorem AreaSt_v (d r : Int) (h : sizeB d = true) (hr : areaI d = r) (w : World) : Calls Tryz.prog 168 #[.int .i64 d] w (Ret w (.tuple #[.int .i64 r, .int .i64 0])) := by
 have HN := hd0 (fun caps w hf => sized_ok d r h _ enters_area1 caps w hf)
 have HR := hd0 (fun g w hg => area1_c d r h hr g w hg)
 clear h hr
 go_enter Tryz.func168, Tryz.ntmps168
 go_wp2_with fail
 go_at_call 197; refine (HN.out _ _ (fun x => HR.out _ _ (by simp [go_sem]))).mono ?_; rintro e w' ⟨rfl, x1, rfl⟩
 go_wp2
 go_ret2
 exact Ret.of gro

set_option maxHeartbeats 2000000
set_option maxRecDepth 100000

set_option maxHeartbeats 2000000

def memberB (s : ByteArray) (l m : List Bx) (c a p : Int) : Bool := nameB s && (solidB l m && (inI c 0 200 && (inI a 1 100 && inI p 1 200)))
theorem member_iff {s : ByteArray} {l m : List Bx} {c a p : Int} : memberB s l m c a p = true ↔ nameB s = true ∧ solidB l m = true ∧ (0 ≤ c ∧ c ≤ 200) ∧ (1 ≤ a ∧ a ≤ 100) ∧ 1 ≤ p ∧ p ≤ 200 := by
 unfold memberB; simp only [Bool.and_eq_true, inI_iff]

theorem within17_v (n lo hi : Int) (r : Bool) (h : inI n lo hi = r) (w : World) : Calls Tryz.prog 177 #[.int .i64 n, .int .i64 lo, .int .i64 hi] w (Ret w (.bool r)) := by
 cases r
 ·rcases inI_false h with h1 | h1
  ·have d1 : decide (lo ≤ n) = false := by simp; omega
   clear h
   go_enter Tryz.func177, Tryz.ntmps177
   go_wp2
   go_ret
   exact Ret.of gro
  ·have d1 : decide (n ≤ hi) = false := by simp; omega
   clear h
   go_enter Tryz.func177, Tryz.ntmps177
   go_wp2
   all_goals
    go_ret
    exact Ret.bool (by simp <;> omega) gro
 ·have h1 := inI_iff.1 h
  clear h
  obtain ⟨h1, h2⟩ := h1
  go_enter Tryz.func177, Tryz.ntmps177
  go_wp2
  all_goals
   go_ret
   exact Ret.bool (by simp <;> omega) gro

theorem solidMember_v (s : ByteArray) (l m : List Bx) (u t : Value) (c a p : Int) (r : Bool) (hr : memberB s l m c a p = r) (hs : s.size ≤ 9223372036854775807) (w : World) (hl : Boxes w u l) (hm : Boxes w t m) :
  Calls Tryz.prog 123 #[.agg #[.string s, u, t, .int .i64 c, .int .i64 a, .int .i64 p]] w (Ret w (.bool r)) := by
 have HL := hd0 hl
 have HM := hd0 hm
 have HI := hd0 (fun r h w => isName_v s r h hs w)
 have HV := hd0 (fun r h w hl hm => solidValid_v l m u t r h w hl hm)
 clear hl hm
 unfold memberB at hr
 cases hn : nameB s
 ·obtain rfl : false = r := by rw [hn] at hr; simpa using hr
  have HN := hd0 hn
  clear hn hr
  go_enter Tryz.func123, Tryz.ntmps123
  go_wp2_with fail
  go_at_call 55; refine (HI.out _ HN.out _).mono ?_; rintro e w' ⟨rfl, x1, rfl⟩
  go_wp2
  go_ret
  exact Ret.of gro
 have HN := hd0 hn
 rw [hn, Bool.true_and] at hr
 cases hb : solidB l m
 ·obtain rfl : false = r := by rw [hb] at hr; simpa using hr
  have HB := hd0 hb
  clear hn hr hb
  go_enter Tryz.func123, Tryz.ntmps123
  go_wp2_with fail
  go_at_call 55; refine (HI.out _ HN.out _).mono ?_; rintro e w' ⟨rfl, x1, rfl⟩
  go_wp2_with fail
  go_at_call 178; refine (HV.out _ HB.out _ (HL.out.below gro) (HM.out.below gro)).mono ?_; rintro e w' ⟨rfl, x2, rfl⟩
  go_wp2
  go_ret
  exact Ret.of gro
 have HB := hd0 hb
 rw [hb, Bool.true_and] at hr
 clear hn hb
 cases h1 : inI c 0 200
 ·obtain rfl : false = r := by rw [h1] at hr; simpa using hr
  have H1 := hd0 h1
  clear h1 hr
  go_enter Tryz.func123, Tryz.ntmps123
  go_wp2_with fail
  go_at_call 55; refine (HI.out _ HN.out _).mono ?_; rintro e w' ⟨rfl, x1, rfl⟩
  go_wp2_with fail
  go_at_call 178; refine (HV.out _ HB.out _ (HL.out.below gro) (HM.out.below gro)).mono ?_; rintro e w' ⟨rfl, x2, rfl⟩
  go_wp2_with fail
  go_at_call 177; refine (within17_v _ _ _ _ H1.out _).mono ?_; rintro e w' ⟨rfl, x3, rfl⟩
  go_wp2
  go_ret
  exact Ret.of gro
 have H1 := hd0 h1
 rw [h1, Bool.true_and] at hr
 clear h1
 cases h2 : inI a 1 100
 ·obtain rfl : false = r := by rw [h2] at hr; simpa using hr
  have H2 := hd0 h2
  clear h2 hr
  go_enter Tryz.func123, Tryz.ntmps123
  go_wp2_with fail
  go_at_call 55; refine (HI.out _ HN.out _).mono ?_; rintro e w' ⟨rfl, x1, rfl⟩
  go_wp2_with fail
  go_at_call 178; refine (HV.out _ HB.out _ (HL.out.below gro) (HM.out.below gro)).mono ?_; rintro e w' ⟨rfl, x2, rfl⟩
  go_wp2_with fail
  go_at_call 177; refine (within17_v _ _ _ _ H1.out _).mono ?_; rintro e w' ⟨rfl, x3, rfl⟩
  go_wp2_with fail
  go_at_call 177; refine (within17_v _ _ _ _ H2.out _).mono ?_; rintro e w' ⟨rfl, x4, rfl⟩
  go_wp2
  go_ret
  exact Ret.of gro
 have H2 := hd0 h2
 rw [h2, Bool.true_and] at hr
 clear h2
 have H3 := hd0 hr
 clear hr
 go_enter Tryz.func123, Tryz.ntmps123
 go_wp2_with fail
 go_at_call 55; refine (HI.out _ HN.out _).mono ?_; rintro e w' ⟨rfl, x1, rfl⟩
 go_wp2_with fail
 go_at_call 178; refine (HV.out _ HB.out _ (HL.out.below gro) (HM.out.below gro)).mono ?_; rintro e w' ⟨rfl, x2, rfl⟩
 go_wp2_with fail
 go_at_call 177; refine (within17_v _ _ _ _ H1.out _).mono ?_; rintro e w' ⟨rfl, x3, rfl⟩
 go_wp2_with fail
 go_at_call 177; refine (within17_v _ _ _ _ H2.out _).mono ?_; rintro e w' ⟨rfl, x4, rfl⟩
 go_wp2_with fail
 go_at_call 177; refine (within17_v _ _ _ _ H3.out _).mono ?_; rintro e w' ⟨rfl, x5, rfl⟩
 go_wp2
 go_ret
 exact Ret.of gro

theorem refMember_v (s : ByteArray) (l m : List Bx) (u t : Value) (c a p : Int) (r : Bool) (hr : memberB s l m c a p = r) (hs : s.size ≤ 9223372036854775807) (w : World) (hl : Boxes w u l) (hm : Boxes w t m) :
  Calls Tryz.prog 50 #[.agg #[.string s, u, t, .int .i64 c, .int .i64 a, .int .i64 p]] w (Ret w (.bool r)) := by
 have HL := hd0 hl
 have HM := hd0 hm
 have HI := hd0 (fun r h w => refIsName_v s r h hs w)
 have HV := hd0 (fun r h w hl hm => refSolid_v l m u t r h w hl hm)
 clear hl hm
 unfold memberB at hr
 cases hn : nameB s
 ·obtain rfl : false = r := by rw [hn] at hr; simpa using hr
  have HN := hd0 hn
  clear hn hr
  go_enter Tryz.func50, Tryz.ntmps50
  go_wp2_with fail
  go_at_call 92; refine (HI.out _ HN.out _).mono ?_; rintro e w' ⟨rfl, x1, rfl⟩
  go_wp2
  go_ret
  exact Ret.of gro
 have HN := hd0 hn
 rw [hn, Bool.true_and] at hr
 cases hb : solidB l m
 ·obtain rfl : false = r := by rw [hb] at hr; simpa using hr
  have HB := hd0 hb
  clear hn hr hb
  go_enter Tryz.func50, Tryz.ntmps50
  go_wp2_with fail
  go_at_call 92; refine (HI.out _ HN.out _).mono ?_; rintro e w' ⟨rfl, x1, rfl⟩
  go_wp2_with fail
  go_at_call 93; refine (HV.out _ HB.out _ (HL.out.below gro) (HM.out.below gro)).mono ?_; rintro e w' ⟨rfl, x2, rfl⟩
  go_wp2
  go_ret
  exact Ret.of gro
 have HB := hd0 hb
 rw [hb, Bool.true_and] at hr
 clear hn hb
 have HR := hd0 hr
 clear hr
 rcases Int.lt_or_le c 0 with k1 | k1
 ·have d1 : decide (0 ≤ c) = false := by simp; omega
  obtain rfl : false = r := by
   have h := HR.out
   unfold inI at h
   rw [d1] at h
   simpa using h
  go_enter Tryz.func50, Tryz.ntmps50
  go_wp2_with fail
  go_at_call 92; refine (HI.out _ HN.out _).mono ?_; rintro e w' ⟨rfl, x1, rfl⟩
  go_wp2_with fail
  go_at_call 93; refine (HV.out _ HB.out _ (HL.out.below gro) (HM.out.below gro)).mono ?_; rintro e w' ⟨rfl, x2, rfl⟩
  go_wp2
  go_ret
  exact Ret.of gro
 have d1 : decide (0 ≤ c) = true := by simp; omega
 obtain ⟨b2, d2⟩ : ∃ b, decide (c ≤ 200) = b := ⟨_, rfl⟩
 obtain ⟨b3, d3⟩ : ∃ b, decide (1 ≤ a) = b := ⟨_, rfl⟩
 obtain ⟨b4, d4⟩ : ∃ b, decide (a ≤ 100) = b := ⟨_, rfl⟩
 obtain ⟨b5, d5⟩ : ∃ b, decide (1 ≤ p) = b := ⟨_, rfl⟩
 obtain ⟨b6, d6⟩ : ∃ b, decide (p ≤ 200) = b := ⟨_, rfl⟩
 obtain rfl : (b2 && (b3 && b4 && (b5 && b6))) = r := by
  have h := HR.out
  unfold inI at h
  rw [d1, d2, d3, d4, d5, d6] at h
  simpa using h
 clear HR
 go_enter Tryz.func50, Tryz.ntmps50
 go_wp2_with fail
 go_at_call 92; refine (HI.out _ HN.out _).mono ?_; rintro e w' ⟨rfl, x1, rfl⟩
 go_wp2_with fail
 go_at_call 93; refine (HV.out _ HB.out _ (HL.out.below gro) (HM.out.below gro)).mono ?_; rintro e w' ⟨rfl, x2, rfl⟩
 cases b2
 ·go_wp2
  go_ret
  exact Ret.of gro
 cases b3
 ·go_wp2
  go_ret
  exact Ret.of gro
 cases b4
 ·go_wp2
  go_ret
  exact Ret.of gro
 cases b5
 ·go_wp2
  go_ret
  exact Ret.of gro
 go_wp2
 go_ret
 exact Ret.of gro


structure Mb where
 name : ByteArray
 l : List Bx
 m : List Bx
 u : Value
 t : Value
 cover : Int
 agg : Int
 poker : Int

structure MbAt (w : World) (x : Mb) : Prop where
 name : x.name.size ≤ 9223372036854775807
 boxes : Boxes w x.u x.l
 holes : Boxes w x.t x.m
theorem MbAt.below {w w' : World} {x : Mb} (h : MbAt w x) (hb : Below w.heap.size w w') : MbAt w' x := ⟨h.name, h.boxes.below hb, h.holes.below hb⟩


def PrAt (w : World) (b off : Nat) (p : Int × Int) : Prop := w.cell? ⟨b, off, none⟩ = some (.int .i64 p.1) ∧ w.cell? ⟨b, off + 1, none⟩ = some (.int .i64 p.2)
theorem PrAt.ext {w : World} {b off : Nat} {p : Int × Int} (h : PrAt w b off p) (y : World) : PrAt (ext w y) b off p := ⟨cell_ext_some h.1 y, cell_ext_some h.2 y⟩
def Prs (w : World) (v : Value) (l : List (Int × Int)) : Prop :=
 ∃ a cap, v = .slice a l.length cap ∧ l.length ≤ cap ∧ cap ≤ 9223372036854775807 ∧ ∀ i (h : i < l.length), ∃ b off, a = some ⟨b, off, none⟩ ∧ PrAt w b (off + i * 2) l[i]
theorem Prs.ext {w : World} {v : Value} {l : List (Int × Int)} (h : Prs w v l) (y : World) : Prs (ext w y) v l := by
 obtain ⟨a, cap, h1, h2, h3, h4⟩ := h
 exact ⟨a, cap, h1, h2, h3, fun i hi => let ⟨b, off, e, hb⟩ := h4 i hi; ⟨b, off, e, hb.ext y⟩⟩
theorem Prs.below {w w' : World} {v : Value} {l : List (Int × Int)} (h : Prs w v l) (hb : Below w.heap.size w w') : Prs w' v l := by
 obtain ⟨x, rfl⟩ := ext_of hb
 exact h.ext x
theorem Prs.shape {w : World} {v : Value} {l : List (Int × Int)} (h : Prs w v l) : ∃ a cap, v = .slice a l.length cap ∧ l.length ≤ cap ∧ cap ≤ 9223372036854775807 ∧ ∀ i (h : i < l.length), ∃ b off, a = some ⟨b, off, none⟩ ∧ PrAt w b (off + i * 2) l[i] := h
theorem Prs.of_own {w : World} {base : Nat} {e : TypeId} {v : Value} {l : List (Int × Int)} (h : w.ownsRow base e 2 v l.length (pairCells l)) : Prs w v l := by
 obtain ⟨a, cap, rfl, h1, h2, h3⟩ := own_shape h
 unfold maxLen at h2
 refine ⟨a, cap, rfl, h1, by omega, fun i hi => ?_⟩
 obtain ⟨g, rfl, _, hc⟩ := h3 (by omega)
 obtain ⟨p1, p2⟩ := pairCells_get l i hi
 exact ⟨g, 0, rfl, by rw [Nat.zero_add, hc _ (by omega), p1], by rw [Nat.zero_add, hc _ (by omega), p2]⟩
theorem prs_nil (w : World) : Prs w (.slice none 0 0) [] := ⟨none, 0, rfl, Nat.le_refl _, by decide, fun i hi => absurd hi (Nat.not_lt_zero _)⟩

structure Dm where
 name : ByteArray
 zone : Bx
 steps : List (Int × Int)
 v : Value
structure Rl where
 num : Int
 den : Int
 pn : Int
 pd : Int
 bn : Int
 bd : Int
 ln : Int
 ld : Int
 least : Int
structure DmOk (w : World) (f : Dm) : Prop where
 name : f.name.size ≤ 9223372036854775807
 steps : Prs w f.v f.steps
theorem DmOk.ext {w : World} {f : Dm} (h : DmOk w f) (y : World) : DmOk (ext w y) f := ⟨h.name, h.steps.ext y⟩
theorem DmOk.below {w w' : World} {f : Dm} (h : DmOk w f) (hb : Below w.heap.size w w') : DmOk w' f := ⟨h.name, h.steps.below hb⟩
def DmAt (w : World) (b off : Nat) (f : Dm) : Prop :=
 w.cell? ⟨b, off, none⟩ = some (.string f.name) ∧ w.cell? ⟨b, off + 1, none⟩ = some (.int .i64 f.zone.lx) ∧ w.cell? ⟨b, off + 2, none⟩ = some (.int .i64 f.zone.ly) ∧ w.cell? ⟨b, off + 3, none⟩ = some (.int .i64 f.zone.lz) ∧
 w.cell? ⟨b, off + 4, none⟩ = some (.int .i64 f.zone.hx) ∧ w.cell? ⟨b, off + 5, none⟩ = some (.int .i64 f.zone.hy) ∧ w.cell? ⟨b, off + 6, none⟩ = some (.int .i64 f.zone.hz) ∧ w.cell? ⟨b, off + 7, none⟩ = some f.v
theorem DmAt.ext {w : World} {b off : Nat} {f : Dm} (h : DmAt w b off f) (y : World) : DmAt (ext w y) b off f :=
 let ⟨h0, h1, h2, h3, h4, h5, h6, h7⟩ := h
 ⟨cell_ext_some h0 y, cell_ext_some h1 y, cell_ext_some h2 y, cell_ext_some h3 y, cell_ext_some h4 y, cell_ext_some h5 y, cell_ext_some h6 y, cell_ext_some h7 y⟩
def Dms (w : World) (v : Value) (l : List Dm) : Prop :=
 ∃ a cap, v = .slice a l.length cap ∧ l.length ≤ cap ∧ cap ≤ 9223372036854775807 ∧ ∀ i (h : i < l.length), DmOk w l[i] ∧ ∃ b off, a = some ⟨b, off, none⟩ ∧ DmAt w b (off + i * 8) l[i]
theorem Dms.ext {w : World} {v : Value} {l : List Dm} (h : Dms w v l) (y : World) : Dms (ext w y) v l := by
 obtain ⟨a, cap, h1, h2, h3, h4⟩ := h
 exact ⟨a, cap, h1, h2, h3, fun i hi => let ⟨q, b, off, e, hb⟩ := h4 i hi; ⟨q.ext y, b, off, e, hb.ext y⟩⟩
theorem Dms.below {w w' : World} {v : Value} {l : List Dm} (h : Dms w v l) (hb : Below w.heap.size w w') : Dms w' v l := by
 obtain ⟨x, rfl⟩ := ext_of hb
 exact h.ext x
theorem Dms.shape {w : World} {v : Value} {l : List Dm} (h : Dms w v l) : ∃ a cap, v = .slice a l.length cap ∧ l.length ≤ cap ∧ cap ≤ 9223372036854775807 ∧ ∀ i (h : i < l.length), DmOk w l[i] ∧ ∃ b off, a = some ⟨b, off, none⟩ ∧ DmAt w b (off + i * 8) l[i] := h
structure Dt where
 q : Mb
 l : List Br
 lv : Value
 rs : List Rn
 rv : Value
 lp : List (Int × Int)
 pv : Value
 dm : List Dm
 dv : Value
 ru : Rl
structure DtAt (w : World) (x : Dt) : Prop where
 q : MbAt w x.q
 l : Bars w x.lv x.l
 rs : Runs w x.rv x.rs
 lp : Prs w x.pv x.lp
 dm : Dms w x.dv x.dm
theorem DtAt.below {w w' : World} {x : Dt} (h : DtAt w x) (hb : Below w.heap.size w w') : DtAt w' x := ⟨h.q.below hb, h.l.below hb, h.rs.below hb, h.lp.below hb, h.dm.below hb⟩
def ruOk (r : Rl) : Prop := (1 ≤ r.num ∧ r.num ≤ 1000) ∧ (1 ≤ r.den ∧ r.den ≤ 1000) ∧ (1 ≤ r.pn ∧ r.pn ≤ 1000) ∧ (1 ≤ r.pd ∧ r.pd ≤ 1000) ∧ (1 ≤ r.bn ∧ r.bn ≤ 1000) ∧ (1 ≤ r.bd ∧ r.bd ≤ 1000) ∧ (1 ≤ r.ln ∧ r.ln ≤ 1000) ∧ (1 ≤ r.ld ∧ r.ld ≤ 1000) ∧ r.pd ≤ r.pn ∧ r.ld ≤ r.ln ∧ r.bn ≤ r.bd ∧ 0 ≤ r.least ∧ r.least ≤ 1000
structure StOk (l : List (Int × Int)) : Prop where
 len : l.length ≤ 200
 one : ∀ i (h : i < l.length), (-1048576 ≤ l[i].1 ∧ l[i].1 ≤ 1048576) ∧ 0 ≤ l[i].2 ∧ l[i].2 ≤ 1099511627776
 asc : ∀ i (h : i + 1 < l.length), l[i].1 < l[i + 1].1
structure DmV (f : Dm) : Prop where
 name : nameB f.name = true
 zone : validB f.zone = true
 steps : StOk f.steps
def mainB (b : Bx) : Bool := decide (b.lx < b.hx) && (decide (b.ly = b.hy) && decide (b.lz = b.hz))
def dtC (x : Dt) : Array Value := #[.string x.q.name, x.q.u, x.q.t, .int .i64 x.q.cover, .int .i64 x.q.agg, .int .i64 x.q.poker, x.lv, x.rv, x.pv, x.dv, .int .i64 x.ru.num, .int .i64 x.ru.den, .int .i64 x.ru.pn, .int .i64 x.ru.pd, .int .i64 x.ru.bn, .int .i64 x.ru.bd, .int .i64 x.ru.ln, .int .i64 x.ru.ld, .int .i64 x.ru.least]

def szOf (g : Br → Int) (l : List Br) (s : List UInt8) : Int := l.foldl (fun a b => if b.mark.data.toList = s then g b else a) 0
theorem szOf_snoc (g : Br → Int) (l : List Br) (b : Br) (s : List UInt8) : szOf g (l ++ [b]) s = if b.mark.data.toList = s then g b else szOf g l s := by
 unfold szOf; rw [List.foldl_append]; rfl
theorem mark_ne {a b : ByteArray} (h : (a.toList == b.toList) = false) : a.data.toList ≠ b.data.toList := by
 intro e
 rw [sEq (ByteArray.ext (Array.ext' e))] at h
 cases h
theorem szOf_skip (g : Br → Int) {l : List Br} {m : ByteArray} (h : ∀ b ∈ l, (b.mark.toList == m.toList) = false) (a : Int) : l.foldl (fun a b => if b.mark.data.toList = m.data.toList then g b else a) a = a := by
 induction l generalizing a with
 | nil => rfl
 | cons b l ih =>
   rw [List.foldl_cons, if_neg (mark_ne (h b List.mem_cons_self))]
   exact ih (fun x hx => h x (List.mem_cons_of_mem _ hx)) a
theorem sched_other {l : List Br} (h : schedB l = true) {m : ByteArray} {k : Nat} (hk : findI l m = k) : ∀ j (hj : j < l.length), j ≠ k → (l[j].mark.toList == m.toList) = false := by
 intro j hj hne
 cases e : l[j].mark.toList == m.toList with
 | false => rfl
 | true =>
   exfalso
   unfold schedB at h
   simp only [Bool.and_eq_true, List.all_eq_true, decide_eq_true_iff] at h
   have h1 := (h.2 j (List.mem_range.2 hj)).2
   rw [show l.getD j noBar = l[j] by simp [List.getD, hj]] at h1
   have : l[j].mark = m := sEq_iff.1 e
   rw [this, hk] at h1
   omega
theorem szOf_find (g : Br → Int) {l : List Br} (h : schedB l = true) {m : ByteArray} (hf : 0 ≤ findI l m) : szOf g l m.data.toList = g (barOf l m) := by
 rcases findI_cases l m with ⟨e, _⟩ | ⟨k, hk, e, hp, _⟩
 ·rw [e] at hf; exact absurd hf (by decide)
 have ho := sched_other h e
 have hb : barOf l m = l[k] := by unfold barOf; rw [e]; simp [hk]
 rw [hb]
 have hm : l[k].mark = m := sEq_iff.1 hp
 unfold szOf
 have hd : l = l.take k ++ l[k] :: l.drop (k + 1) := by rw [← List.drop_eq_getElem_cons hk, List.take_append_drop]
 rw [show l.foldl (fun a b => if b.mark.data.toList = m.data.toList then g b else a) 0 = (l.take k ++ l[k] :: l.drop (k + 1)).foldl (fun a b => if b.mark.data.toList = m.data.toList then g b else a) 0 by rw [← hd]]
 rw [List.foldl_append, List.foldl_cons, if_pos (by rw [hm]), szOf_skip]
 intro b hb
 obtain ⟨j, hj, rfl⟩ := List.getElem_of_mem hb
 rw [List.getElem_drop]
 exact ho _ _ (by omega)

def SzMap (g : Br → Int) (w : World) (b n : Nat) (l : List Br) : Prop := ∃ D : DataW Unit, w.ownsMap Tryz.prog 9 (plainElem Tryz.prog 3) b n D ∧ Maps.IsMap D ∧ ∀ s : List UInt8, D.atKey (.string s) (.lit (.int .i64 0)) = .lit (.int .i64 (szOf g l s))
theorem zero_int (w : World) : (zeroValue 3).run Tryz.prog w = .ok (.int .i64 0) w := by kernel_rfl
theorem marks_law : Maps.Keyed Tryz.prog 9 := Maps.string_keyed Tryz.underlying9
theorem SzMap.ext {g : Br → Int} {w : World} {b n : Nat} {l : List Br} (h : SzMap g w b n l) (x : World) : SzMap g (ext w x) b n l := by
 obtain ⟨D, h1, h2, h3⟩ := h
 exact ⟨D, h1.kept (row := none) ⟨(below_ext w x).os, (below_ext w x).tape, (below_ext w x).output, (below_ext w x).size, fun k hk _ => (below_ext w x).block k hk⟩ (by simp), h2, h3⟩
theorem SzMap.below {g : Br → Int} {w w' : World} {b n : Nat} {l : List Br} (h : SzMap g w b n l) (hb : Below w.heap.size w w') : SzMap g w' b n l := by
 obtain ⟨x, rfl⟩ := ext_of hb
 exact h.ext x
theorem SzMap.look {g : Br → Int} {w : World} {b n : Nat} {l : List Br} (h : SzMap g w b n l) (m : ByteArray) (hf : m.size ≤ 9223372036854775807) :
  (Instr.lookup 215 (.map (some b)) (.string m) false).run Tryz.prog w = .ok (.int .i64 (szOf g l m.data.toList)) w := by
 obtain ⟨D, h1, h2, h3⟩ := h
 obtain ⟨v, ps, hrun, hv⟩ := h1.lookup marks_law Tryz.underlying215 (zero_int w) (plainElem_int Tryz.underlying3 rfl) (WideMaps.keyOf_string_mk Tryz.underlying9 (by unfold maxLen; exact hf))
 rw [h3] at hv
 rw [hrun]
 obtain ⟨c, rfl, hc, _⟩ := plainElem_int_inv Tryz.underlying3 hv
 simp only [Prod.mk.injEq, DataW.lit.injEq, Lit.int.injEq, true_and] at hc
 rw [← hc.1]
theorem SzMap.made (g : Br → Int) (w : World) : SzMap g (w.alloc (.map #[] 0)) w.heap.size 0 [] :=
 ⟨.map [], World.ownsMap_made _ _ _ _, ⟨_, rfl⟩, fun _ => rfl⟩
theorem SzMap.put {g : Br → Int} {w' : World} {b n : Nat} {l : List Br} {f : Br} {D : DataW Unit} (h2 : Maps.IsMap D) (h3 : ∀ s : List UInt8, D.atKey (.string s) (.lit (.int .i64 0)) = .lit (.int .i64 (szOf g l s)))
  (h : w'.ownsMap Tryz.prog 9 (plainElem Tryz.prog 3) b n (D.put (.string f.mark.data.toList) (.lit (.int .i64 (g f))))) : SzMap g w' b n (l ++ [f]) := by
 refine ⟨_, h, Maps.IsMap.put h2 _ _, fun s => ?_⟩
 rw [szOf_snoc]
 by_cases he : f.mark.data.toList = s
 ·subst he
  rw [Maps.atKey_put_same h2 (by trivial), if_pos rfl]
 ·rw [Maps.atKey_put_other (by simpa using fun e => he e.symm), h3, if_neg he]
theorem size_wf {d : Int} (h : sizeB d = true) : (Lit.int .i64 d).wf = true := by
 rcases size_iff.1 h with rfl | rfl | rfl | rfl | rfl | rfl | rfl | rfl | rfl <;> rfl
def sizeF (b : Br) : Int := b.size


theorem roundIn_any {n m : Nat} {P : Program} {l : Nat} {f : FuncId} {tmps : Array Value} {assign body : Code} {w : World} {R : Ending → World → Prop} (h : RoundIn Fence.wide n P l f tmps assign body w R) : RoundIn Fence.wide m P l f tmps assign body w R :=
 ⟨h.1, fun c cs _ => h.2 c cs (room_wide _)⟩

end Go.Proofs.YtkjljneehgmmaaaGreat

