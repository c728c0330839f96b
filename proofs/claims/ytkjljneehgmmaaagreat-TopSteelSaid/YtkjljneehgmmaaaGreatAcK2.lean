/- TtL, TtM, TtN, TtO in one text. -/
import Derived.Test.YtkjljneehgmmaaaGreatAbK9
import Derived.Test.YtkjljneehgmmaaaGreatAcK1
namespace Go.Proofs.YtkjljneehgmmaaaGreat
set_option linter.unusedVariables false
set_option linter.unusedSimpArgs false
open Go Go.RowKit
set_option maxRecDepth 20000

theorem supsI_ok (x : Dt) (hv : DtV x) (hs : countS x.rs ≤ 16) : (supsI x).length ≤ 20 ∧ ∀ b ∈ supsI x, StOk b := by
 refine ⟨by unfold supsI; rw [List.length_map]; exact hv.dlen, fun b hb => ?_⟩
 obtain ⟨f, -, rfl⟩ := List.mem_map.1 hb
 exact supD_ok x hv hs f
theorem clmOk_pair {x : Dt} (hv : DtV x) {f s q : Int} (h : NearOk (legsTo x.l x.rs (countS x.rs).toNat) f s q) : ClPair f s q := by
 obtain ⟨a, b, h1, h2, rfl, rfl, rfl, -⟩ := h
 have hr := (legsAll_ok hv.laid).2 a b (by omega) h2
 have hl : (legsTo x.l x.rs (countS x.rs).toNat).length ≤ 2000 := by
  rw [legsTo_length]
  have := (count_le hv.laid 0).2.2
  omega
 exact ⟨by omega, by omega, by omega, hr.1, by omega⟩
set_option maxRecDepth 100000 in
set_option maxHeartbeats 16000000 in
theorem claimCheck_c (x : Dt) (hv : DtV x) (hs : countS x.rs ≤ 16) (v : Value) (f s q : Int) (hc : ClmOk (legsTo x.l x.rs (countS x.rs).toNat) f s q) (w : World) (h : DtAt w x) (hsr : StsR w v (supsI x)) :
  Calls Tryz.prog 16 #[(.agg #[.string x.q.name, x.q.u, x.q.t, .int .i64 x.q.cover, .int .i64 x.q.agg, .int .i64 x.q.poker, x.lv, x.rv, x.pv, x.dv, .int .i64 x.ru.num, .int .i64 x.ru.den, .int .i64 x.ru.pn, .int .i64 x.ru.pd, .int .i64 x.ru.bn, .int .i64 x.ru.bd, .int .i64 x.ru.ln, .int .i64 x.ru.ld, .int .i64 x.ru.least]), .agg #[v, .int .i64 f, .int .i64 s, .int .i64 q]] w (Ret w (.tuple #[.bool true, .int .i64 0])) := by
 have HX := hd0 h
 have HLV := hd0 (fun w h => lapValid_c x hv w h)
 have HMK := hd0 (fun w h => claimMake_c x hv hs w h)
 obtain ⟨ho1, ho2⟩ := supsI_ok x hv hs
 have hnp : ClNone f s q ∨ ClPair f s q := by
  rcases hc with ⟨-, h⟩ | h
  ·exact .inl h
  ·exact .inr (clmOk_pair hv h)
 have HFM := hd0 (fun w hw => formed_c (supsI x) v f s q ho1 ho2 hnp w hw)
 have HEQ := hd0 (fun u u' w h1 h2 => claimEqual_c (supsI x) u u' w h1 h2)
 have HCN := hd0 (fun w hl hr => count_c x.l x.rs x.lv x.rv w hl hr)
 rw [show countE x.l x.rs = (countS x.rs, 0) by unfold countE; rw [if_pos hv.laid]] at HCN
 have HSQ := hd0 (fun a b hab hb w hl hr => SquareCl_c x.l x.rs x.lv x.rv hv.laid a b hab hb w hl hr)
 have hc0 : 0 ≤ countS x.rs := by have h := (count_le hv.laid x.rs.length).1; rw [List.take_length] at h; exact h
 have HAL := hd0 (show ((legsTo x.l x.rs (countS x.rs).toNat).length : Int) = countS x.rs by rw [legsTo_length]; omega)
 have HSR := hd0 hsr
 obtain ⟨va, vc, rfl, -, -, -⟩ := hsr.shape
 have HVD := hd0 hv.laid
 clear h hv ho1 ho2 hnp hsr hc0
 unfold RetClm at HMK
 generalize legsTo x.l x.rs (countS x.rs).toNat = A at *
 generalize countS x.rs = nn at *
 obtain ⟨ns, hns⟩ : ∃ n, (supsI x).length = n := ⟨_, rfl⟩
 rw [hns] at HFM HSR ⊢
 have HNS := hd0 hns
 clear hns
 go_enter Tryz.func16, Tryz.ntmps16
 go_upto_region 1 with fail
 refine world_mask (fun W => Below w.heap.size w W ∧ Blk W w.heap.size (dtC x) 34 ∧ Blk W (w.heap.size + 1) #[.slice va ns vc, .int .i64 f, .int .i64 s, .int .i64 q] 64) _ ⟨gro, (Blk.new _ _ _).alloc _, Blk.new' (by simp only [World.size_alloc]) _ _⟩ ?_
 rintro W2 ⟨hb2, K2, K3⟩
 have HB2 := hd0 hb2
 have HK2 := hd0 K2
 have HK3 := hd0 K3
 have HKE := hd0 (fun y => K3.ext y)
 clear hb2 K2 K3
 go_upto_region 3 with (first | (refine wpList_load_row rfl _ _ rfl _ rfl _ (dtC x) _ _ HK2.out rfl rfl rfl ?_) | (go_at_call 27; refine (HLV.out _ (HX.out.below HB2.out)).mono ?_; rintro e w' ⟨rfl, x1, rfl⟩; have k0 := (HKE.out x1).cell 0; have k1 := (HKE.out x1).cell 1; have k2 := (HKE.out x1).cell 2; have k3 := (HKE.out x1).cell 3) | (go_at_call 41; refine (HFM.out _ (HSR.out.below (grob HB2.out))).mono ?_; rintro e w' ⟨rfl, x2, rfl⟩))
 refine world_mask (fun W => Below w.heap.size w W ∧ Blk W w.heap.size (dtC x) 34 ∧ Blk W (w.heap.size + 1) #[.slice va ns vc, .int .i64 f, .int .i64 s, .int .i64 q] 64) _ ⟨grob HB2.out, HK2.out.below gro, HK3.out.below gro⟩ ?_
 clear HB2 HK2 HK3 HKE k0 k1 k2 k3
 rintro W3 ⟨hb2, K2, K3⟩
 have HB2 := hd0 hb2
 have HK2 := hd0 K2
 have HK3 := hd0 K3
 clear hb2 K2 K3
 go_upto_region 6 with (first | (refine wpList_load_row rfl _ _ rfl _ rfl _ (dtC x) _ _ HK2.out rfl rfl rfl ?_) | (go_at_call 14; refine (HMK.out _ (HX.out.below HB2.out)).mono ?_; rintro e w' ⟨v2, f2, s2, q2, rfl, hsr2, hc2, y1, rfl⟩; obtain ⟨a2, c2, ev2, -⟩ := hsr2.shape; subst ev2; have HS2 := hd0 hsr2; have HC2 := hd0 hc2; clear hsr2 hc2))
 refine world_mask (fun W => Below w.heap.size w W ∧ Blk W w.heap.size (dtC x) 34 ∧ Blk W (w.heap.size + 1) #[.slice va ns vc, .int .i64 f, .int .i64 s, .int .i64 q] 64 ∧ StsR W (.slice a2 (supsI x).length c2) (supsI x) ∧ Blk W (W3.heap.size + y1.heap.size) #[.slice a2 (supsI x).length c2, .int .i64 f2, .int .i64 s2, .int .i64 q2] 64) _ ⟨grob HB2.out, HK2.out.below gro, HK3.out.below gro, HS2.out.below gro, Blk.new' (by simp only [size_ext]) _ _⟩ ?_
 clear HB2 HK2 HK3 HS2
 generalize W3.heap.size + y1.heap.size = g6 at *
 rw [HNS.out]
 rintro W4 ⟨hb4, K2, K3, hs4, K6⟩
 have HB4 := hd0 hb4
 have HK2 := hd0 K2
 have HK3 := hd0 K3
 have HK6 := hd0 K6
 have HS4 := hd0 hs4
 have c0 := K6.cell 0
 have d0 := K3.cell 0
 have c3 := fun y => (K6.ext y).cell 3
 have d3 := fun y => (K3.ext y).cell 3
 clear hb4 K2 K3 K6 hs4
 rcases hc with ⟨hn, rfl, rfl, rfl⟩ | hno
 ·obtain ⟨rfl, rfl, rfl⟩ : f2 = -1 ∧ s2 = -1 ∧ q2 = -1 := by
   rcases HC2.out with ⟨-, h⟩ | ⟨a, b, h1, h2, -⟩
   ·exact h
   ·omega
  have HN := hd0 (fun a n c w => claimNone_y a n c w)
  clear HC2 hn
  go_upto_region 8 with (go_at_call 42; refine (HEQ.out _ _ _ HS4.out ((HSR.out.below HB4.out))).mono ?_; rintro e w' ⟨rfl, y2, rfl⟩; have c3' := c3 y2; have d3' := d3 y2)
  have HB5 := hd0 (show Below w.heap.size w (ext W4 y2) from grob HB4.out)
  have HK35 := hd0 (HK3.out.ext y2)
  have HK65 := hd0 (HK6.out.ext y2)
  clear c0 d0 c3 d3 c3' d3' HB4 HK2 HK3 HK6
  generalize ext W4 y2 = W5 at *
  go_upto_region 9 with (first | (refine wpList_load_row rfl _ _ rfl _ rfl _ _ _ _ HK35.out rfl rfl rfl ?_) | (go_at_call 43; refine (HN.out _ _ _ _).mono ?_; rintro e w' ⟨rfl, y3, rfl⟩))
  have HB6 := hd0 (show Below w.heap.size w (ext W5 y3) from grob HB5.out)
  have HK66 := hd0 (HK65.out.ext y3)
  clear HB5 HK35 HK65
  generalize ext W5 y3 = W6 at *
  go_wp2_with (first | (refine wpList_load_row rfl _ _ rfl _ rfl _ _ _ _ HK66.out rfl rfl rfl ?_) | (go_at_call 43; refine (HN.out _ _ _ _).mono ?_; rintro e w' ⟨rfl, y4, rfl⟩))
  go_ret2
  exact Ret.of (grob HB6.out)
 ·obtain rfl : q2 = q := by
   rcases HC2.out with ⟨hn, -⟩ | h
   ·obtain ⟨a, b, h1, h2, -⟩ := hno
    omega
   ·exact h.same hno
  obtain ⟨a, b, h1, h2, rfl, rfl, rfl, -⟩ := hno
  have HN := hd0 (fun va n c w => claimNone_n va n c (a : Int) (b : Int) (sqAt A a b) (by omega) w)
  have HSB := hd0 (HSQ.out a b h1 h2)
  have hle : decide (nn ≤ (b : Int)) = false := by have := HAL.out; simp; omega
  clear HC2 h1 h2
  generalize sqAt A a b = q at *
  go_upto_region 8 with (go_at_call 42; refine (HEQ.out _ _ _ HS4.out ((HSR.out.below HB4.out))).mono ?_; rintro e w' ⟨rfl, y2, rfl⟩; have c3' := c3 y2; have d3' := d3 y2)
  have HB5 := hd0 (show Below w.heap.size w (ext W4 y2) from grob HB4.out)
  have HK25 := hd0 (HK2.out.ext y2)
  have HK35 := hd0 (HK3.out.ext y2)
  clear c0 d0 c3 d3 c3' d3' HB4 HK2 HK3 HK6
  generalize ext W4 y2 = W5 at *
  go_upto_region 10 with (first | (refine wpList_load_row rfl _ _ rfl _ rfl _ _ _ _ HK35.out rfl rfl rfl ?_) | (go_at_call 43; refine (HN.out _ _ _ _).mono ?_; rintro e w' ⟨rfl, y3, rfl⟩))
  have HB6 := hd0 (show Below w.heap.size w (ext W5 y3) from grob HB5.out)
  have HK26 := hd0 (HK25.out.ext y3)
  have HK36 := hd0 (HK35.out.ext y3)
  clear HB5 HK25 HK35
  generalize ext W5 y3 = W6 at *
  have c6 : W6.cell? ⟨w.heap.size, 6, none⟩ = some x.lv := HK26.out.cell 6
  have c7 : W6.cell? ⟨w.heap.size, 7, none⟩ = some x.rv := HK26.out.cell 7
  have e2 := fun y => (HK36.out.ext y).cell 2
  go_upto_region 13 with (go_at_call 44; refine (HCN.out _ (HX.out.l.below HB6.out) (HX.out.rs.below HB6.out)).mono ?_; rintro e w' ⟨rfl, y4, rfl⟩; have e2' := e2 y4)
  have HB7 := hd0 (show Below w.heap.size w (ext W6 y4) from grob HB6.out)
  have HK27 := hd0 (HK26.out.ext y4)
  have HK37 := hd0 (HK36.out.ext y4)
  clear c6 c7 e2 e2' HB6 HK26 HK36
  generalize ext W6 y4 = W7 at *
  have c6 : W7.cell? ⟨w.heap.size, 6, none⟩ = some x.lv := HK27.out.cell 6
  have c7 : W7.cell? ⟨w.heap.size, 7, none⟩ = some x.rv := HK27.out.cell 7
  have e1 := HK37.out.cell 1
  have e2 := HK37.out.cell 2
  have e3 := fun y => (HK37.out.ext y).cell 3
  go_wp2_with (go_at_call 45; refine (HSB.out _ (HX.out.l.below HB7.out) (HX.out.rs.below HB7.out)).mono ?_; rintro e w' ⟨rfl, y5, rfl⟩; have e3' := e3 y5)
  go_ret2
  exact Ret.of (grob HB7.out)
set_option maxHeartbeats 2000000

def VsR (w : World) (v : Value) (l : List Value) : Prop :=
 ∃ a cap, v = .slice a l.length cap ∧ l.length ≤ cap ∧ cap ≤ 9223372036854775807 ∧ ∀ i (h : i < l.length), ∃ b off, a = some ⟨b, off, none⟩ ∧ w.cell? ⟨b, off + i, none⟩ = some l[i]
theorem VsR.of_own {W : World} {base n : Nat} {e : TypeId} {v : Value} {l : List Value} (h : W.ownsRow base e 1 v n l) (hn : n = l.length) : VsR W v l := by
 subst hn
 obtain ⟨a, cap, rfl, q1, q2, q3⟩ := own_shape h
 unfold maxLen at q2
 refine ⟨a, cap, rfl, q1, by omega, fun i hi => ?_⟩
 obtain ⟨g, rfl, _, hc⟩ := q3 (by omega)
 exact ⟨g, 0, rfl, by rw [Nat.zero_add, hc _ (by omega)]; simp [hi]⟩
def firstN (p : Nat → Bool) (n : Nat) : Int := (((List.range n).find? p).map (fun i : Nat => (i : Int))).getD (-1)
theorem firstN_any (p : Nat → Bool) (n : Nat) : decide (0 ≤ firstN p n) = (List.range n).any p := by
 unfold firstN
 cases h : (List.range n).find? p with
 | none =>
   simp only [Option.map_none, Option.getD_none]
   rw [show (decide ((0 : Int) ≤ -1)) = false from rfl]
   symm; rw [List.any_eq_false]
   intro x hx
   exact List.find?_eq_none.1 h x hx
 | some k =>
   simp only [Option.map_some, Option.getD_some]
   rw [show decide ((0 : Int) ≤ (k : Int)) = true from by simp]
   symm; rw [List.any_eq_true]
   exact ⟨k, List.mem_of_find?_eq_some h, List.find?_some h⟩
theorem firstN_at {p : Nat → Bool} {n k : Nat} (hk : k < n) (hp : p k = true) (hno : ∀ j, j < k → p j = false) : firstN p n = k := by
 unfold firstN
 have e : (List.range n).find? p = some k := by
  rw [List.find?_eq_some_iff_getElem]
  exact ⟨hp, k, by simpa using hk, by simp, fun j hj => by simp [hno j hj]⟩
 rw [e]; rfl
theorem firstN_no {p : Nat → Bool} {n : Nat} (hno : ∀ j, j < n → p j = false) : firstN p n = -1 := by
 unfold firstN
 rw [List.find?_eq_none.2 (fun j hj => by rw [hno j (List.mem_range.1 hj)]; decide)]
 rfl
set_option maxRecDepth 100000 in
theorem indexFunc_fn (F : Nat) (hE : Enters F) (l : List Value) (p : Nat → Bool) (v : Value) (w : World) (hl : VsR w v l) (hfn : ∀ u ∈ l, ∃ k c, u = .func (.func k) #[] c)
  (hf : ∀ i x (h : i < l.length), Calls Tryz.prog F (#[l[i]] ++ #[]) (ext w x) (Ret (ext w x) (.bool (p i)))) :
  Calls Tryz.prog 136 #[v, .func (.func F) #[] #[]] w (Ret w (.int .i64 (firstN p l.length))) := by
 obtain ⟨a, cap, rfl, h2, h3, h4⟩ := hl
 have HF := hd0 hf
 have HFN := hd0 hfn
 have hn : l.length ≤ 9223372036854775807 := by omega
 have H4 := hd0 h4
 clear hf h4 hfn
 go_enter Tryz.func136, Tryz.ntmps136
 go_wp2_with fail
 go_loopw [8, 5] (fun i j wr => ∃ k : Nat, k ≤ l.length ∧ i = .int .i64 k ∧ (∃ x, wr = ext w x) ∧ ∀ j, j < k → p j = false) (fun i j _ => l.length - (intOf i).toNat)
 case atStart => exact ⟨0, by omega, rfl, ext_of (Below.refl _ _), fun j h => by omega⟩
 case round =>
  obtain ⟨k, hk, rfl, ⟨x, rfl⟩, hno⟩ := hrel
  have HNO := hd0 hno
  clear hno
  by_cases hlt : k < l.length
  ·obtain ⟨b, off, rfl, hb⟩ := (H4.out k hlt)
   have c0 := cell_ext_some hb x
   have HC := hd0 (HF.out k x hlt)
   obtain ⟨kf, cf, ef⟩ := HFN.out _ (List.getElem_mem hlt)
   rw [ef] at c0 HC
   have q1 : (0 : Int) ≤ (k : Int) := by omega
   have q2 : (k : Int) < (l.length : Int) := by omega
   clear hb ef
   go_wp2_with fail
   rw [show ∀ (a : Array Value) (w : World), (callFunc F a).run Tryz.prog w = .ok (.enter F a) w from hE, Oper.upon_enter]
   refine HC.out.mono ?_
   rintro e w' ⟨rfl, y, rfl⟩
   clear c0
   cases hp : p k
   ·have HP := hd0 hp
    clear hp
    go_wp2
    go_roundw
    case rel => exact ⟨k + 1, by omega, by go_num, ⟨_, ext_ext _ _ _⟩, fun j h1 => by
     rcases Nat.lt_or_ge j k with h | h
     ·exact HNO.out j h
     ·obtain rfl : j = k := by omega
      exact HP.out⟩
    case measure => simp [intOf]; omega
   ·have HE := hd0 (firstN_at hlt hp HNO.out)
    clear hp
    go_wp2
    go_ret
    rw [HE.out]
    exact Ret.of gro
  ·obtain rfl : k = l.length := by omega
   have HE := hd0 (firstN_no HNO.out)
   go_wp2
   go_ret
   rw [HE.out]
   exact Ret.of gro
theorem verAll1_c (F : Nat) (hE : Enters F) (caps : Array Value) (r : Bool) (w : World) (hf : Calls Tryz.prog F caps w (Ret w (.bool r))) : Calls Tryz.prog 80 #[.func (.func F) #[] caps] w (Ret w (.bool (!r))) := by
 have HF := hd0 hf
 clear hf
 go_enter Tryz.func80, Tryz.ntmps80
 go_wp2_with fail
 rw [show ∀ (a : Array Value) (w : World), (callFunc F a).run Tryz.prog w = .ok (.enter F a) w from hE, Oper.upon_enter]
 refine HF.out.mono ?_
 rintro e w' ⟨rfl, y, rfl⟩
 go_wp2
 go_ret
 exact Ret.of gro
theorem enters_verAll1 : Enters 80 := enters_of Tryz.func80 (by decide) (by simp [Tryz.f80])
theorem verAll_c (l : List Value) (p : Nat → Bool) (v : Value) (w : World) (hl : VsR w v l) (hfn : ∀ u ∈ l, ∃ k c, u = .func (.func k) #[] c)
  (hf : ∀ i x (h : i < l.length), Calls Tryz.prog 80 #[l[i]] (ext w x) (Ret (ext w x) (.bool (p i)))) :
  Calls Tryz.prog 40 #[v] w (Ret w (.bool (!((List.range l.length).any p)))) := by
 have HI := hd0 (indexFunc_fn _ enters_verAll1 l p v w hl hfn hf)
 have HA := hd0 (firstN_any p l.length)
 obtain ⟨a, cap, rfl, -, -, -⟩ := hl
 have HC : Hid (Calls Tryz.prog 79 #[.slice a l.length cap, .func (.func 80) #[] #[]] w (Ret w (.bool ((List.range l.length).any p)))) := by
  refine hd0 ?_
  rw [← HA.out]
  generalize firstN p l.length = r at *
  go_enter Tryz.func79, Tryz.ntmps79
  go_wp2_with fail
  refine HI.out.mono ?_; rintro e w' ⟨rfl, x, rfl⟩
  go_wp2
  go_ret
  exact Ret.of gro
 generalize (List.range l.length).any p = r at *
 clear hf hfn
 go_enter Tryz.func40, Tryz.ntmps40
 go_wp2_with fail
 go_at_call 79; refine (HC.out).mono ?_; rintro e w' ⟨rfl, x1, rfl⟩
 go_wp2
 go_ret
 exact Ret.of gro
set_option maxHeartbeats 4000000

theorem ver1_c (x : Dt) (v : Value) (b3 b2 : Nat) (w : World) (hd : ∃ a c, x.dv = .slice a x.dm.length c) (hv : StsR w v (supsI x)) (h3 : Blk w b3 #[v] 62) (h2 : Blk w b2 (dtC x) 34) :
  Calls Tryz.prog 35 #[.pointer (some ⟨b3, 0, none⟩), .pointer (some ⟨b2, 0, none⟩)] w (Ret w (.bool true)) := by
 obtain ⟨a, c, rfl, -, -, -⟩ := hv.shape
 obtain ⟨da, dc, edv⟩ := hd
 have hln : (supsI x).length = x.dm.length := by unfold supsI; rw [List.length_map]
 have c3 := h3.cell 0
 have c9 : w.cell? ⟨b2, 9, none⟩ = some (.slice da x.dm.length dc) := (h2.cell 9).trans (congrArg some edv)
 rw [hln] at c3
 have d1 : ((x.dm.length : Int) == (x.dm.length : Int)) = true := by simp
 clear hv h3 h2 edv hln
 go_enter Tryz.func35, Tryz.ntmps35
 go_wp2
 go_ret
 exact Ret.of gro
theorem ver2_c (x : Dt) (hv : DtV x) (hs : countS x.rs ≤ 16) (d : Nat) (hd : d < x.dm.length) (v : Value) (b2 g b3 : Nat) (w : World) (h : DtAt w x) (hv2 : StsR w v (supsI x)) (h3 : Blk w b3 #[v] 62) (h2 : Blk w b2 (dtC x) 34) (hg : Blk w g #[.int .i64 d] 3) :
  Calls Tryz.prog 36 #[.pointer (some ⟨b2, 0, none⟩), .pointer (some ⟨g, 0, none⟩), .pointer (some ⟨b3, 0, none⟩)] w (Ret w (.bool true)) := by
 have HX := hd0 h
 have HOF := hd0 (supOf_c x hv hs d hd w h)
 have hln : (supsI x).length = x.dm.length := by unfold supsI; rw [List.length_map]
 obtain ⟨a, c, rfl, -, -, h4⟩ := hv2.shape
 obtain ⟨bs, os, u, ea, hcu, hu⟩ := h4 d (by omega)
 subst ea
 have e1 : (supsI x)[d]'(by omega) = supS (supI x (x.dm[d]'hd)) := by simp [supsI]
 rw [e1] at hu
 have HEQ := hd0 (fun v' w' h1 h2 => equalSts_c (supS (supI x (x.dm[d]'hd))) v' u w' h1 h2)
 have HU := hd0 hu
 obtain ⟨ua, uc, rfl, -, -, -⟩ := hu.shape
 have HK2 := hd0 h2
 have d0 := hg.cell 0
 have d0e := fun y => (hg.ext y).cell 0
 have d3e := fun y => (h3.ext y).cell 0
 have due := fun y => cell_ext_some hcu y
 have q1 : (0 : Int) ≤ (d : Int) := by omega
 have q2 : (d : Int) < ((supsI x).length : Int) := by omega
 clear h hv hv2 h4 h3 h2 hg hu e1 hln hcu
 generalize supS (supI x x.dm[d]) = S at *
 generalize (supsI x).length = n at *
 go_enter Tryz.func36, Tryz.ntmps36
 go_wp2_with (first | (refine wpList_load_row rfl _ _ rfl _ rfl _ (dtC x) _ _ HK2.out rfl rfl rfl ?_) | (go_at_call 37; refine HOF.out.mono ?_; rintro e w' ⟨vo, rfl, hown, y1, rfl⟩; obtain ⟨ao, co, rfl, -, -, -⟩ := own_shape hown; have HO1 := hd0 (Prs.of_own hown); have d0' := d0e y1; have d3' := d3e y1; have du' := due y1; clear hown) | (go_at_call 38; refine (HEQ.out _ _ HO1.out (HU.out.below gro)).mono ?_; rintro e w' ⟨rfl, y2, rfl⟩))
 go_ret
 exact Ret.of gro
theorem ver3_c (x : Dt) (hv : DtV x) (hs : countS x.rs ≤ 16) (d : Nat) (hd : d < x.dm.length) (b2 g : Nat) (w : World) (h : DtAt w x) (h2 : Blk w b2 (dtC x) 34) (hg : Blk w g #[.int .i64 d] 3) :
  Calls Tryz.prog 39 #[.pointer (some ⟨b2, 0, none⟩), .pointer (some ⟨g, 0, none⟩)] w (Ret w (.bool (failD x x.dm[d]).isNone)) := by
 have HFL := hd0 (Fails_c x hv hs d hd w h)
 have HK2 := hd0 h2
 have d0 := hg.cell 0
 clear h hv h2 hg
 generalize failD x x.dm[d] = o at *
 cases o with
 | none =>
   unfold failT at HFL
   show Calls _ _ _ _ (Ret w (.bool true))
   go_enter Tryz.func39, Tryz.ntmps39
   go_wp2_with (first | (refine wpList_load_row rfl _ _ rfl _ rfl _ (dtC x) _ _ HK2.out rfl rfl rfl ?_) | (go_at_call 11; refine (HFL.out).mono ?_; rintro e w' ⟨rfl, y1, rfl⟩))
   go_ret
   exact Ret.of gro
 | some q =>
   unfold failT at HFL
   show Calls _ _ _ _ (Ret w (.bool false))
   go_enter Tryz.func39, Tryz.ntmps39
   go_wp2_with (first | (refine wpList_load_row rfl _ _ rfl _ rfl _ (dtC x) _ _ HK2.out rfl rfl rfl ?_) | (go_at_call 11; refine (HFL.out).mono ?_; rintro e w' ⟨rfl, y1, rfl⟩))
   go_ret
   exact Ret.of gro
theorem enters_ver1 : Enters 35 := enters_of Tryz.func35 (by decide) (by simp [Tryz.f35])
theorem enters_ver2 : Enters 36 := enters_of Tryz.func36 (by decide) (by simp [Tryz.f36])
theorem enters_ver3 : Enters 39 := enters_of Tryz.func39 (by decide) (by simp [Tryz.f39])

def cond1 (b2 b3 : Nat) : Value := .func (.func 35) #[] #[.pointer (some ⟨b3, 0, none⟩), .pointer (some ⟨b2, 0, none⟩)]
def cond2 (b2 b3 g : Nat) : Value := .func (.func 36) #[] #[.pointer (some ⟨b2, 0, none⟩), .pointer (some ⟨g, 0, none⟩), .pointer (some ⟨b3, 0, none⟩)]
def cond3 (b2 g : Nat) : Value := .func (.func 39) #[] #[.pointer (some ⟨b2, 0, none⟩), .pointer (some ⟨g, 0, none⟩)]
def condG (b2 b3 : Nat) (gs : List Nat) : List Value := gs.flatMap fun g => [cond2 b2 b3 g, cond3 b2 g]
def condV (b2 b3 : Nat) (gs : List Nat) : List Value := cond1 b2 b3 :: condG b2 b3 gs
theorem condG_length (b2 b3 : Nat) (gs : List Nat) : (condG b2 b3 gs).length = 2 * gs.length := by
 induction gs with
 | nil => rfl
 | cons g gs ih =>
   have e : condG b2 b3 (g :: gs) = [cond2 b2 b3 g, cond3 b2 g] ++ condG b2 b3 gs := rfl
   rw [e, List.length_append, ih, List.length_cons]
   simp; omega
theorem condV_length (b2 b3 : Nat) (gs : List Nat) : (condV b2 b3 gs).length = 1 + 2 * gs.length := by
 show (condG b2 b3 gs).length + 1 = _
 rw [condG_length]; omega
theorem condV_snoc (b2 b3 : Nat) (gs : List Nat) (g : Nat) : condV b2 b3 (gs ++ [g]) = condV b2 b3 gs ++ [cond2 b2 b3 g, cond3 b2 g] := by
 unfold condV condG
 rw [List.flatMap_append]; rfl
theorem condG_get (b2 b3 : Nat) : ∀ (gs : List Nat) (d : Nat) (hd : d < gs.length), (condG b2 b3 gs)[2 * d]? = some (cond2 b2 b3 gs[d]) ∧ (condG b2 b3 gs)[2 * d + 1]? = some (cond3 b2 gs[d]) := by
 intro gs
 induction gs with
 | nil => intro d hd; exact absurd hd (Nat.not_lt_zero _)
 | cons g gs ih =>
   intro d hd
   have e : condG b2 b3 (g :: gs) = cond2 b2 b3 g :: cond3 b2 g :: condG b2 b3 gs := rfl
   rw [e]
   cases d with
   | zero => exact ⟨rfl, rfl⟩
   | succ d =>
     have := ih d (by simpa using hd)
     have e1 : 2 * (d + 1) = 2 * d + 1 + 1 := by omega
     rw [e1]
     simpa using this
theorem condV_cases (b2 b3 : Nat) (gs : List Nat) (i : Nat) (h : i < (condV b2 b3 gs).length) : (i = 0 ∧ (condV b2 b3 gs)[i] = cond1 b2 b3) ∨ ∃ (d : Nat) (hd : d < gs.length), (i = 2 * d + 1 ∧ (condV b2 b3 gs)[i] = cond2 b2 b3 gs[d]) ∨ (i = 2 * d + 2 ∧ (condV b2 b3 gs)[i] = cond3 b2 gs[d]) := by
 rw [condV_length] at h
 cases i with
 | zero => exact .inl ⟨rfl, rfl⟩
 | succ i =>
   right
   refine ⟨i / 2, by omega, ?_⟩
   obtain ⟨g1, g2⟩ := condG_get b2 b3 gs (i / 2) (by omega)
   have hi : i < (condG b2 b3 gs).length := by rw [condG_length]; omega
   have e : (condV b2 b3 gs)[i + 1]'(by rw [condV_length]; omega) = (condG b2 b3 gs)[i] := rfl
   rcases Nat.mod_two_eq_zero_or_one i with hm | hm
   ·left
    refine ⟨by omega, ?_⟩
    rw [e]
    have e2 : i = 2 * (i / 2) := by omega
    rw [← e2, List.getElem?_eq_getElem hi] at g1
    exact Option.some.inj g1
   ·right
    refine ⟨by omega, ?_⟩
    rw [e]
    have e2 : i = 2 * (i / 2) + 1 := by omega
    rw [← e2, List.getElem?_eq_getElem hi] at g2
    exact Option.some.inj g2
def condB (x : Dt) (i : Nat) : Bool := if i % 2 = 0 ∧ i ≠ 0 then (match x.dm[i / 2 - 1]? with | some f => (failD x f).isSome | none => false) else false
theorem condB_any (x : Dt) : ((List.range (1 + 2 * x.dm.length)).any (condB x)) = !decide (chkI x x.dm = []) := by
 rw [Bool.eq_iff_iff]
 simp only [List.any_eq_true, Bool.not_eq_true', decide_eq_false_iff_not, List.mem_range]
 constructor
 ·rintro ⟨i, hi, hp⟩ he
  unfold condB at hp
  split at hp
  ·rename_i h
   cases hf : x.dm[i / 2 - 1]? with
   | none => rw [hf] at hp; exact absurd hp Bool.false_ne_true
   | some f =>
     rw [hf] at hp
     have hm := List.mem_of_getElem? hf
     have : f.name ∈ chkI x x.dm := List.mem_map.2 ⟨f, List.mem_filter.2 ⟨hm, hp⟩, rfl⟩
     rw [he] at this
     cases this
  ·exact absurd hp Bool.false_ne_true
 ·intro he
  obtain ⟨m, hm⟩ := List.exists_mem_of_ne_nil _ he
  obtain ⟨f, hf, -⟩ := List.mem_map.1 hm
  obtain ⟨h1, h2⟩ := List.mem_filter.1 hf
  obtain ⟨d, hd, e⟩ := List.getElem_of_mem h1
  refine ⟨2 * d + 2, by omega, ?_⟩
  unfold condB
  rw [if_pos (by omega), show (2 * d + 2) / 2 - 1 = d by omega, List.getElem?_eq_getElem hd, e]
  exact h2
theorem condB_at (x : Dt) {d : Nat} (hd : d < x.dm.length) : condB x (2 * d + 2) = !(failD x x.dm[d]).isNone := by
 unfold condB
 rw [if_pos (by omega), show (2 * d + 2) / 2 - 1 = d by omega, List.getElem?_eq_getElem hd]
 show (failD x x.dm[d]).isSome = _
 cases failD x x.dm[d] <;> rfl
theorem condB_odd (x : Dt) (d : Nat) : condB x (2 * d + 1) = false := by unfold condB; rw [if_neg (by omega)]
theorem info_fn : (Tryz.prog.info? 35).map (fun i => (i.zero, i.size, i.bytes)) = some (some .nilFunc, 1, 8) := by kernel_rfl
theorem own_new1 (W : World) (c : Value) (e : TypeId) : (W.alloc (.cells #[c] e)).ownsRow W.heap.size e 1 (.slice (some ⟨W.heap.size, 0, none⟩) 1 1) 1 [c] := own_one W c e
structure VeJ (W1 : World) (b2 b3 k : Nat) (v : Value) (W : World) : Prop where
 below : Below W1.heap.size W1 W
 row : ∃ gs : List Nat, gs.length = k ∧ W.ownsRow W1.heap.size 35 1 v (1 + 2 * k) (condV b2 b3 gs) ∧ ∀ d (h : d < gs.length), Blk W gs[d] #[.int .i64 d] 3
set_option maxRecDepth 100000 in
set_option maxHeartbeats 16000000 in
theorem verSections_c (x : Dt) (hv : DtV x) (hs : countS x.rs ≤ 16) (v : Value) (w : World) (h : DtAt w x) (hsr : StsR w v (supsI x)) :
  Calls Tryz.prog 15 #[(.agg #[.string x.q.name, x.q.u, x.q.t, .int .i64 x.q.cover, .int .i64 x.q.agg, .int .i64 x.q.poker, x.lv, x.rv, x.pv, x.dv, .int .i64 x.ru.num, .int .i64 x.ru.den, .int .i64 x.ru.pn, .int .i64 x.ru.pd, .int .i64 x.ru.bn, .int .i64 x.ru.bd, .int .i64 x.ru.ln, .int .i64 x.ru.ld, .int .i64 x.ru.least]), v] w (Ret w (.tuple #[.bool (decide (chkI x x.dm = [])), .int .i64 0])) := by
 have HX := hd0 h
 have HSR := hd0 hsr
 have HLV := hd0 (fun w h => lapValid_c x hv w h)
 obtain ⟨va, vc, rfl, -, -, -⟩ := hsr.shape
 have HC1 := hd0 (fun b3 b2 w hd hv h3 h2 => ver1_c x (.slice va (supsI x).length vc) b3 b2 w hd hv h3 h2)
 have HC2 := hd0 (fun d (hdd : d < x.dm.length) b2 g b3 w h hv2 h3 h2 hg => ver2_c x hv hs d hdd (.slice va (supsI x).length vc) b2 g b3 w h hv2 h3 h2 hg)
 have HC3 := hd0 (fun d (hdd : d < x.dm.length) b2 g w h h2 hg => ver3_c x hv hs d hdd b2 g w h h2 hg)
 have HAN := hd0 (condB_any x)
 have hdl := hv.dlen
 obtain ⟨da, dc, edv, -⟩ := h.dm.shape
 have HDV := hd0 edv
 obtain ⟨ns, hns⟩ : ∃ n, (supsI x).length = n := ⟨_, rfl⟩
 rw [hns] at HSR HC1 HC2 ⊢
 clear h hv hs hsr edv hns
 go_enter Tryz.func15, Tryz.ntmps15
 go_upto_region 1 with fail
 refine world_mask (fun W => Below w.heap.size w W ∧ Blk W w.heap.size (dtC x) 34 ∧ Blk W (w.heap.size + 1) #[.slice va ns vc] 62) _ ⟨gro, (Blk.new _ _ _).alloc _, Blk.new' (by simp only [World.size_alloc]) _ _⟩ ?_
 rintro W2 ⟨hb2, K2, K3⟩
 have HB2 := hd0 hb2
 have HK2 := hd0 K2
 have HK3 := hd0 K3
 clear hb2 K2 K3
 go_upto_region 3 with (first | (refine wpList_load_row rfl _ _ rfl _ rfl _ (dtC x) _ _ HK2.out rfl rfl rfl ?_) | (go_at_call 27; refine (HLV.out _ (HX.out.below HB2.out)).mono ?_; rintro e w' ⟨rfl, x1, rfl⟩))
 refine world_mask (fun W => Below w.heap.size w W ∧ Blk W w.heap.size (dtC x) 34 ∧ Blk W (w.heap.size + 1) #[.slice va ns vc] 62) _ ⟨grob HB2.out, HK2.out.below gro, HK3.out.below gro⟩ ?_
 clear HB2 HK2 HK3
 rintro W1 ⟨hb1, K2, K3⟩
 have HB1 := hd0 hb1
 have HK2 := hd0 K2
 have HK3 := hd0 K3
 clear hb1 K2 K3
 go_upto_region 4 with fail
 refine world_mask (fun W => VeJ W1 w.heap.size (w.heap.size + 1) 0 (.slice (some ⟨W1.heap.size, 0, none⟩) 1 1) W) _ ⟨gro, [], rfl, own_new1 W1 (cond1 w.heap.size (w.heap.size + 1)) 35, fun d hd => absurd hd (Nat.not_lt_zero _)⟩ ?_
 rintro W4 J4
 have HJ4 := hd0 J4
 have e9 : W4.cell? ⟨w.heap.size, 9, none⟩ = some (.slice da x.dm.length dc) := ((HK2.out.below J4.below).cell 9).trans (congrArg some HDV.out)
 clear J4
 go_wp2_with fail
 go_loopw [16, 6] (fun i v wr => ∃ k : Nat, k ≤ x.dm.length ∧ i = .int .i64 k ∧ VeJ W1 w.heap.size (w.heap.size + 1) k v wr) (fun i _ _ => x.dm.length - (intOf i).toNat)
 case atStart => exact ⟨0, Nat.zero_le _, rfl, HJ4.out⟩
 case round =>
  obtain ⟨W3, rfl⟩ : ∃ W : World, W = wr := ⟨_, rfl⟩
  clear e9 HJ4
  obtain ⟨k, hk, rfl, hj⟩ := hrel
  have hb3 := hj.below
  obtain ⟨gs, hgl, hrow, hcl⟩ := hj.row
  obtain ⟨av, cv, rfl, -, hcv, -⟩ := own_shape hrow
  have hcv3 : cv ≤ 9223372036854775807 := hcv
  have HB3 := hd0 hb3
  have HROW := hd0 hrow
  have HCL := hd0 hcl
  have HGL := hd0 hgl
  clear hj hb3 hrow hcl hgl hcv
  by_cases hlt : k < x.dm.length
  ·have i1 : (0 : Int) ≤ (k : Int) := by omega
   have i2 : (k : Int) < (x.dm.length : Int) := by omega
   have hg11 : W1.heap.size ≤ W3.heap.size := HB3.out.size
   go_upto_region 7 with fail
   refine world_mask (fun W => Below W3.heap.size W3 W ∧ Blk W W3.heap.size #[.int .i64 k] 3) _ ⟨gro, Blk.new _ _ _⟩ ?_
   generalize hG : W3.heap.size = g7 at hg11 ⊢
   rintro W5 ⟨hb5, K7⟩
   rw [← hG] at hb5
   have HG := hd0 hG
   have HB5 := hd0 (HB3.out.trans (Below.mono hb5 HB3.out.size))
   have HRW := hd0 (own_grows HROW.out hb5)
   have HCL5 := hd0 (fun d (h : d < gs.length) => (HCL.out d h).below hb5)
   have HK7 := hd0 K7
   have hsz5 := hb5.size
   clear hb5 K7 hG
   go_wp2_with (at_builtin; refine app_own_b rfl _ _ 104 rfl 35 .nilFunc 1 8 Tryz.underlying104 info_fn rfl (by decide) W1.heap.size (.slice av (1 + 2 * k) cv) (1 + 2 * k) (condV w.heap.size (w.heap.size + 1) gs) _ rfl (HRW.out.alloc _) _ 2 2 [cond2 w.heap.size (w.heap.size + 1) g7, cond3 w.heap.size g7] rfl rfl (cells_new ?_ _ _ _ rfl) (by simp [cond2, cond3, Value.oneCell']) (by omega) (by decide) ?_ ?_; (first | rfl | simp [size_ext]); (have := HG.out; simp only [World.size_alloc]; omega); intro v' w1 hown' hgrow; have HO2 := hd0 hown'; obtain ⟨a', c', rfl, -, hc2, -⟩ := own_shape hown'; have hc3 : c' ≤ 9223372036854775807 := hc2; have HGR := hd0 hgrow; clear hown' hgrow hc2)
   go_roundw
   case rel => exact ⟨k + 1, by omega, by go_num, ⟨(grow_alloc _ HB5.out).grown HGR.out (by have := HG.out; simp only [World.size_alloc]; omega) (fun j e => (HROW.out.lt j e).1), gs ++ [g7], by rw [List.length_append, HGL.out]; rfl, by rw [condV_snoc, show 1 + 2 * (k + 1) = 1 + 2 * k + 2 by omega]; exact HO2.out, fun d hd => by
    rcases Nat.lt_or_ge d gs.length with h | h
    ·rw [List.getElem_append_left h]
     have hb := (HCL5.out d h).alloc (.cells #[cond2 w.heap.size (w.heap.size + 1) g7, cond3 w.heap.size g7] 35)
     exact hb.grown HGR.out (hb.ne_row (HRW.out.alloc _) (by decide))
    ·have hd2 : d = gs.length := by simp at hd; omega
     subst hd2
     rw [List.getElem_append_right (Nat.le_refl _)]
     have hb := HK7.out.alloc (.cells #[cond2 w.heap.size (w.heap.size + 1) g7, cond3 w.heap.size g7] 35)
     have hb2 := hb.grown HGR.out (hb.ne_row (HRW.out.alloc _) (by decide))
     rw [← HGL.out] at hb2
     simpa using hb2⟩⟩
   case measure => simp [intOf]; omega
  ·obtain rfl : k = x.dm.length := by omega
   have HVS := hd0 (VsR.of_own HROW.out (by rw [condV_length, HGL.out]))
   have HBX := hd0 (HB1.out.trans (Below.mono HB3.out HB1.out.size))
   have HALL : Hid (Calls Tryz.prog 40 #[.slice av (1 + 2 * x.dm.length) cv] W3 (Ret W3 (.bool (decide (chkI x x.dm = []))))) := by
    refine hd0 ?_
    have hcl : (condV w.heap.size (w.heap.size + 1) gs).length = 1 + 2 * x.dm.length := by rw [condV_length, HGL.out]
    have h0 := verAll_c (condV w.heap.size (w.heap.size + 1) gs) (condB x) (.slice av (1 + 2 * x.dm.length) cv) W3 HVS.out (fun u hu => ?_) (fun i y hi => ?_)
    ·rw [hcl, HAN.out, Bool.not_not] at h0
     exact h0
    ·obtain ⟨i, hi, rfl⟩ := List.getElem_of_mem hu
     rcases condV_cases _ _ _ i hi with ⟨-, e⟩ | ⟨d, hd, ⟨-, e⟩ | ⟨-, e⟩⟩ <;> rw [e] <;> exact ⟨_, _, rfl⟩
    ·have hbx : Below w.heap.size w (ext W3 y) := grow_ext y HBX.out
     have hk2 := (HK2.out.below HB3.out).ext y
     have hk3 := (HK3.out.below HB3.out).ext y
     rcases condV_cases _ _ _ i hi with ⟨rfl, e⟩ | ⟨d, hd, ⟨rfl, e⟩ | ⟨rfl, e⟩⟩ <;> rw [e]
     ·exact verAll1_c _ enters_ver1 _ true (ext W3 y) (HC1.out _ _ _ ⟨da, dc, HDV.out⟩ (HSR.out.below hbx) hk3 hk2)
     ·rw [condB_odd]
      exact verAll1_c _ enters_ver2 _ true (ext W3 y) (HC2.out d (by have := HGL.out; omega) _ _ _ _ (HX.out.below hbx) (HSR.out.below hbx) hk3 hk2 ((HCL.out d hd).ext y))
     ·rw [condB_at x (show d < x.dm.length by have := HGL.out; omega)]
      exact verAll1_c _ enters_ver3 _ _ (ext W3 y) (HC3.out d (by have := HGL.out; omega) _ _ _ (HX.out.below hbx) hk2 ((HCL.out d hd).ext y))
   generalize decide (chkI x x.dm = []) = r at *
   go_wp2_with (go_at_call 40; refine (HALL.out).mono ?_; rintro e w' ⟨rfl, y1, rfl⟩)
   go_ret2
   exact Ret.of (grow_ext _ HBX.out)
end Go.Proofs.YtkjljneehgmmaaaGreat

