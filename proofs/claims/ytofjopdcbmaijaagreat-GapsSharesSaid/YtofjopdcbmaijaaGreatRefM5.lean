/- The reference's findings, and its steel: stirrupref21.size, Least, Aggregate, Check, Steel. -/
import Derived.Test.YtofjopdcbmaijaaGreatRefMK
import Derived.Test.YtofjopdcbmaijaaGreatGapK4
import Derived.Test.YtofjopdcbmaijaaGreatStI
import Derived.Test.YtofjopdcbmaijaaGreatFds
namespace Go.Proofs.YtofjopdcbmaijaaGreat
open Go.RowKit
set_option maxRecDepth 20000
attribute [local go_sem] run_bar_size run_bar_mark

theorem refLeast21_c (d a : Int) (_ : -1000000 ≤ d ∧ d ≤ 1000000) (ha : -1000000 ≤ a ∧ a ≤ 1000000) (w : World) : Calls Tryz.prog 47 #[.int .i64 d, .int .i64 a] w (Ret w (.int .i64 (leastI d a))) := by
  unfold leastI
  go_enter Tryz.func47, Tryz.ntmps47
  go_wp2
  go_ret
  exact Ret.of (by (repeat (first | exact grow_refl _ | refine grow_ext _ ?_ | refine grow_alloc _ ?_ | refine grow_drew ?_)))
theorem refAgg21_v (n : Int) (r : Bool) (h : inI n 1 100 = r) (w : World) : Calls Tryz.prog 17 #[.int .i64 n] w (Ret w (.bool r)) := by
  unfold inI at h
  cases h1 : decide (1 ≤ n)
  · rw [h1, Bool.false_and] at h
    subst h
    go_enter Tryz.func17, Tryz.ntmps17
    go_wp2
    go_ret
    exact Ret.of (by (repeat (first | exact grow_refl _ | refine grow_ext _ ?_ | refine grow_alloc _ ?_ | refine grow_drew ?_)))
  · rw [h1, Bool.true_and] at h
    cases r
    all_goals
      go_enter Tryz.func17, Tryz.ntmps17
      go_wp2
      go_ret
      exact Ret.of (by (repeat (first | exact grow_refl _ | refine grow_ext _ ?_ | refine grow_alloc _ ?_ | refine grow_drew ?_)))

set_option maxHeartbeats 1000000 in
theorem refSize21_c (l : List Br) (rs : List Rn) (v u : Value) (c : Rc) (hv : laidB l rs = true) (h0 : 0 ≤ c.bar) (hi : c.bar < countS rs) (w : World) (hl : Bars w v l) (hr : Runs w u rs) :
    Calls Tryz.prog 46 #[v, u, (.agg #[.int .i64 c.box.lx, .int .i64 c.box.ly, .int .i64 c.box.lz, .int .i64 c.box.hx, .int .i64 c.box.hy, .int .i64 c.box.hz, .int .i64 c.bar])] w (Ret w (.int .i64 (sizeI l rs c.bar))) := by
  have HBA := Lib.hid (fun w hl hr => refBar_c l rs v u c.bar hv h0 hi w hl hr)
  have HL := Lib.hid hl
  have HR := Lib.hid hr
  have hbs : (barOf l (markI rs c.bar)).size = sizeI l rs c.bar := rfl
  obtain ⟨qq, hqq, eb⟩ := List.getElem_of_mem (bar_mem (mark_of hv h0 hi).2.1)
  obtain ⟨_, _, -, -, -, g4⟩ := hl.shape
  obtain ⟨ad, cd, ev, -, -, -⟩ := (g4 qq hqq).1.dims
  rw [eb] at ev
  clear g4 eb hqq hl hr h0 hi hv
  obtain ⟨b, hb⟩ : ∃ b, barOf l (markI rs c.bar) = b := ⟨_, rfl⟩
  rw [hb] at HBA hbs ev
  obtain ⟨D, hD⟩ : ∃ D, sizeI l rs c.bar = D := ⟨_, rfl⟩
  rw [hD] at hbs ⊢
  obtain ⟨mark, size, count, code, dims, dv⟩ := b
  simp only at hbs ev
  subst hbs ev
  clear hb hD
  go_enter Tryz.func46, Tryz.ntmps46
  go_wp2_with fail
  go_at_call 40; refine (HBA.out _ (HL.out.below (by (repeat (first | exact grow_refl _ | refine grow_ext _ ?_ | refine grow_alloc _ ?_ | refine grow_drew ?_)))) (HR.out.below (by (repeat (first | exact grow_refl _ | refine grow_ext _ ?_ | refine grow_alloc _ ?_ | refine grow_drew ?_))))).mono ?_; rintro e w' ⟨rfl, y2, rfl⟩
  go_wp2
  go_ret
  exact Ret.of (by (repeat (first | exact grow_refl _ | refine grow_ext _ ?_ | refine grow_alloc _ ?_ | refine grow_drew ?_)))

/-- What the loops of Check and Steel know of the reference's cuts. -/
structure RcOk (l : List Br) (rs : List Rn) (x : Int) (R : List Rc) (L : List Ct) : Prop where
  len : R.length = L.length
  most : R.length ≤ 12000
  bar : ∀ c ∈ R, 0 ≤ c.bar ∧ c.bar < countS rs
  bd : ∀ c ∈ R, Bd c.box
  get : ∀ i (h : i < R.length), L.getD i noCt = ctOf l rs R[i]
  sz : ∀ c ∈ L, sizeB c.size = true
theorem rcOk {l : List Br} {rs : List Rn} {x : Int} (hv : laidB l rs = true) (hx : inI x (-1048576) 1048576 = true) : RcOk l rs x (rcI l rs x) (cutsI l rs x) := by
  have hce : cutsE l rs x = (cutsI l rs x, 0) := by unfold cutsE; rw [if_pos hv, if_pos hx]
  have hsm : ∀ c ∈ cutsI l rs x, SmallB c.box ∧ sizeB c.size = true := by have := @cutsE_small l rs x; rw [hce] at this; exact this
  have hlen : (cutsI l rs x).length ≤ 12000 := by have := cutsE_len l rs x; rw [hce] at this; exact this
  have hll : (rcI l rs x).length = (cutsI l rs x).length := by rw [← rcI_ct, List.length_map]
  have hxr : -1048576 ≤ x ∧ x ≤ 1048576 := by unfold inI at hx; simpa using hx
  have h0 : 0 ≤ countS rs := by have := (count_le hv rs.length).1; rwa [List.take_length] at this
  refine ⟨hll, by omega, rcI_bar h0, fun c hc => ?_, fun i hi => ?_, fun c hc => (hsm c hc).2⟩
  · have h1 : ctOf l rs c ∈ cutsI l rs x := by rw [← rcI_ct]; exact List.mem_map.2 ⟨c, hc, rfl⟩
    have h2 := (hsm _ h1).1
    have h3 : c.box.lx = x ∧ c.box.hx = x := by
      unfold rcI rcTo at hc
      obtain ⟨i, _, hci⟩ := List.mem_flatMap.1 hc
      unfold rcAt at hci
      obtain ⟨b, _, hcb⟩ := List.mem_filterMap.1 hci
      unfold rcOf at hcb
      split at hcb
      · cases hcb; exact ⟨rfl, rfl⟩
      · cases hcb
    have h4 : SmallB c.box := h2
    unfold SmallB at h4
    unfold Bd; omega
  · rw [getD_lt (by omega)]
    have : (cutsI l rs x)[i]'(by omega) = ((rcI l rs x).map (ctOf l rs))[i]'(by rw [List.length_map]; exact hi) := by congr 1; rw [rcI_ct]
    rw [this, List.getElem_map]

set_option maxRecDepth 100000 in
set_option maxHeartbeats 4000000 in
theorem refSteel21_c (l : List Br) (rs : List Rn) (v u : Value) (x : Int) (hv : laidB l rs = true) (hx : inI x (-1048576) 1048576 = true) (w : World) (hl : Bars w v l) (hr : Runs w u rs) :
    Calls Tryz.prog 23 #[v, u, .int .i64 x] w (Ret w (.int .i64 (steelI (cutsI l rs x)))) := by
  have hxr : -1048576 ≤ x ∧ x ≤ 1048576 := by unfold inI at hx; simpa using hx
  have HC := Lib.hid (fun w hl hr => refCuts21_c l rs v u x hv hxr w hl hr)
  have ok := rcOk hv hx
  have HSI := Lib.hid (fun c h0 hi w hl hr => refSize21_c l rs v u c hv h0 hi w hl hr)
  have HL := Lib.hid hl
  have HR := Lib.hid hr
  generalize rcI l rs x = R at *
  generalize cutsI l rs x = L at *
  have hm := ok.most
  have hll := ok.len
  have HOK := Lib.hid ok
  have HST := Lib.hid (fun n h => steelT_range ok.sz n h)
  have HSA := Lib.hid (steelT_all L)
  clear hl hr hv hx ok hxr
  go_enter Tryz.func23, Tryz.ntmps23
  go_wp2_with fail
  go_at_call 12; refine (HC.out _ (HL.out.below (by (repeat (first | exact grow_refl _ | refine grow_ext _ ?_ | refine grow_alloc _ ?_ | refine grow_drew ?_)))) (HR.out.below (by (repeat (first | exact grow_refl _ | refine grow_ext _ ?_ | refine grow_alloc _ ?_ | refine grow_drew ?_))))).mono ?_; rintro e w' ⟨v6, rfl, hown, x6, rfl⟩
  obtain ⟨a6, c6, rfl, m1, m2, m3⟩ := Rcs.of_own hown
  have M3 := Lib.hid m3
  clear hown m3
  go_wp2_with fail
  go_loopw [8, 9] (fun s i wr => ∃ n : Nat, n ≤ R.length ∧ i = .int .i64 n ∧ s = .int .i64 (steelT L n) ∧ ∃ z, wr = ext (ext w x6) z) (fun _ i _ => R.length - (intOf i).toNat)
  case atStart => exact ⟨0, by omega, rfl, by simp [steelT], ext_of (by (repeat (first | exact grow_refl _ | refine grow_ext _ ?_ | refine grow_alloc _ ?_ | refine grow_drew ?_)))⟩
  case round =>
    obtain ⟨n, hn, rfl, rfl, z, rfl⟩ := hrel
    by_cases hlt : n < R.length
    · have i1 : (0 : Int) ≤ (n : Int) := by omega
      have i2 : (n : Int) < (R.length : Int) := by omega
      obtain ⟨b0, o0, rfl, hp⟩ := M3.out n hlt
      obtain ⟨p0, p1, p2, p3, p4, p5, p6⟩ := hp.ext z
      have hb := HOK.out.bar _ (List.getElem_mem hlt)
      have hget := HOK.out.get n hlt
      rw [getD_lt (by omega)] at hget
      have HSU := Lib.hid (steelT_succ (L := L) (n := n) (by omega))
      rw [hget] at HSU
      have hsz := HOK.out.sz _ (List.getElem_mem (show n < L.length by omega))
      rw [hget] at hsz
      have h1 := HST.out n (by omega)
      have hcz : (ctOf l rs R[n]).size = sizeI l rs R[n].bar := rfl
      rw [hcz] at HSU hsz
      have HZ := Lib.hid (fun w hl hr => HSI.out R[n] hb.1 hb.2 w hl hr)
      generalize R[n] = c at *
      obtain ⟨D, hD⟩ : ∃ D, sizeI l rs c.bar = D := ⟨_, rfl⟩
      rw [hD] at HSU hsz HZ
      have har := areaI_range hsz
      obtain ⟨A, hA⟩ : ∃ A, areaI D = A := ⟨_, rfl⟩
      have HA := Lib.hid (fun w => refArea_c D A hsz hA w)
      rw [hA] at HSU har
      obtain ⟨T, hT⟩ : ∃ T, steelT L n = T := ⟨_, rfl⟩
      rw [hT] at h1 HSU ⊢
      clear hp hb hget hcz hD hA hT hsz
      go_wp2_with fail
      go_at_call 46; refine (HZ.out _ (HL.out.below (by (repeat (first | exact grow_refl _ | refine grow_ext _ ?_ | refine grow_alloc _ ?_ | refine grow_drew ?_)))) (HR.out.below (by (repeat (first | exact grow_refl _ | refine grow_ext _ ?_ | refine grow_alloc _ ?_ | refine grow_drew ?_))))).mono ?_; rintro e w' ⟨rfl, y1, rfl⟩
      go_wp2_with fail
      go_at_call 53; refine (HA.out _).mono ?_; rintro e w' ⟨rfl, y2, rfl⟩
      clear p0 p1 p2 p3 p4 p5 p6
      go_wp2
      go_roundw
      case rel => exact ⟨n + 1, by omega, by go_num, by rw [HSU.out], ext_of (by (repeat (first | exact grow_refl _ | refine grow_ext _ ?_ | refine grow_alloc _ ?_ | refine grow_drew ?_)))⟩
      case measure => simp [intOf]; omega
    · obtain rfl : n = R.length := by omega
      go_wp2
      go_ret
      rw [hll, HSA.out]
      exact Ret.of (by (repeat (first | exact grow_refl _ | refine grow_ext _ ?_ | refine grow_alloc _ ?_ | refine grow_drew ?_)))


set_option maxRecDepth 100000 in
set_option maxHeartbeats 8000000 in
theorem refCheck21_c (l : List Br) (rs : List Rn) (v u : Value) (a x : Int) (hv : laidB l rs = true) (hx : inI x (-1048576) 1048576 = true) (ha : 1 ≤ a ∧ a ≤ 100) (w : World) (hl : Bars w v l) (hr : Runs w u rs) :
    Calls Tryz.prog 19 #[v, u, .int .i64 a, .int .i64 x] w (RetFdsO w (checkI (cutsI l rs x) a)) := by
  have hxr : -1048576 ≤ x ∧ x ≤ 1048576 := by unfold inI at hx; simpa using hx
  have HC := Lib.hid (fun w hl hr => refCuts21_c l rs v u x hv hxr w hl hr)
  have ok := rcOk hv hx
  have HSI := Lib.hid (fun c h0 hi w hl hr => refSize21_c l rs v u c hv h0 hi w hl hr)
  have HBA := Lib.hid (fun i h0 hi w hl hr => refBar_c l rs v u i hv h0 hi w hl hr)
  have HDV := Lib.hid (show ∀ i, 0 ≤ i → i < countS rs → ∃ ad n cd, (barOf l (markI rs i)).dv = .slice ad n cd from fun i h0 hi => by
    obtain ⟨qq, hqq, eb⟩ := List.getElem_of_mem (bar_mem (mark_of hv h0 hi).2.1)
    obtain ⟨_, _, -, -, -, g4⟩ := hl.shape
    obtain ⟨ad, cd, ev, -, -, -⟩ := (g4 qq hqq).1.dims
    rw [eb] at ev
    exact ⟨ad, _, cd, ev⟩)
  have HMK := Lib.hid (show ∀ i, 0 ≤ i → i < countS rs → (barOf l (markI rs i)).mark = markI rs i from fun i h0 hi => by
    have hf := (mark_of hv h0 hi).2.1
    rcases findI_cases l (markI rs i) with ⟨e1, -⟩ | ⟨q, hq, e1, e2, -⟩
    · omega
    · unfold barOf
      rw [e1]
      have := sEq_iff.1 e2
      simpa [List.getD, hq] using this)
  have HL := Lib.hid hl
  have HR := Lib.hid hr
  generalize rcI l rs x = R at *
  have HCI := Lib.hid (show checkI (cutsI l rs x) a = checkTo (cutsI l rs x) a (cutsI l rs x).length from rfl)
  generalize cutsI l rs x = L at *
  have hm := ok.most
  have hll := ok.len
  have HOK := Lib.hid ok
  have HG := Lib.hid (show ∀ i k (hi : i < R.length) (hk : k < R.length) w, Calls Tryz.prog 42 #[(.agg #[.int .i64 R[i].box.lx, .int .i64 R[i].box.ly, .int .i64 R[i].box.lz, .int .i64 R[i].box.hx, .int .i64 R[i].box.hy, .int .i64 R[i].box.hz, .int .i64 R[i].bar]), (.agg #[.int .i64 R[k].box.lx, .int .i64 R[k].box.ly, .int .i64 R[k].box.lz, .int .i64 R[k].box.hx, .int .i64 R[k].box.hy, .int .i64 R[k].box.hz, .int .i64 R[k].bar])] w (Ret w (.int .i64 (gapK L i k))) from fun i k hi hk w => by
    have := refGap21_c R[i] R[k] (ok.bd _ (List.getElem_mem hi)) (ok.bd _ (List.getElem_mem hk)) w
    rw [show gapK L i k = gapB R[i].box R[k].box by unfold gapK; rw [ok.get i hi, ok.get k hk]; rfl]
    exact this)
  have HTL := Lib.hid (fun n => checkTo_len L a n)
  obtain ⟨ha0, ha1⟩ := ha
  have HLL := Lib.hid hll
  clear hl hr hv hx ok hxr hll
  go_enter Tryz.func19, Tryz.ntmps19
  go_wp2_with fail
  go_at_call 12; refine (HC.out _ (HL.out.below (by (repeat (first | exact grow_refl _ | refine grow_ext _ ?_ | refine grow_alloc _ ?_ | refine grow_drew ?_)))) (HR.out.below (by (repeat (first | exact grow_refl _ | refine grow_ext _ ?_ | refine grow_alloc _ ?_ | refine grow_drew ?_))))).mono ?_; rintro e w' ⟨v6, rfl, hown, x6, rfl⟩
  obtain ⟨a6, c6, rfl, m1, m2, m3⟩ := Rcs.of_own hown
  have M3 := Lib.hid m3
  clear hown m3
  refine world_mask (fun W => Below w.heap.size w W ∧ ∀ i (h : i < R.length), ∃ b off, a6 = some ⟨b, off, none⟩ ∧ RcAt W b (off + i * 7) R[i]) _ ⟨by (repeat (first | exact grow_refl _ | refine grow_ext _ ?_ | refine grow_alloc _ ?_ | refine grow_drew ?_)), M3.out⟩ ?_
  clear M3
  rintro W1 ⟨hb1, m3⟩
  have HB := Lib.hid hb1
  have M3 := Lib.hid m3
  clear hb1 m3
  go_wp2_with fail
  go_loopw [10, 11] (fun v i wr => ∃ n : Nat, n ≤ R.length ∧ i = .int .i64 n ∧ (∃ z, wr = ext W1 z) ∧ wr.ownsRow W1.heap.size 57 2 v (checkTo L a n).length (fdCells (checkTo L a n))) (fun _ i _ => R.length - (intOf i).toNat)
  case atStart => exact ⟨0, by omega, rfl, ext_of (by (repeat (first | exact grow_refl _ | refine grow_ext _ ?_ | refine grow_alloc _ ?_ | refine grow_drew ?_))), World.ownsRow_nil _ _ _ _⟩
  case round =>
    obtain ⟨n, hn, rfl, ⟨z, rfl⟩, hown⟩ := hrel
    have HO := Lib.hid hown
    obtain ⟨av, cv, rfl, hv1, hv2, -⟩ := own_shape hown
    have hv3 : cv ≤ 9223372036854775807 := hv2
    clear hown
    by_cases hlt : n < R.length
    · have i1 : (0 : Int) ≤ (n : Int) := by omega
      have i2 : (n : Int) < (R.length : Int) := by omega
      obtain ⟨b0, o0, rfl, hp⟩ := M3.out n hlt
      have hb := HOK.out.bar _ (List.getElem_mem hlt)
      have hgn := HOK.out.get n hlt
      have hszn := HOK.out.sz _ (List.getElem_mem (show n < L.length by have := HLL.out; omega))
      rw [getD_lt (by have := HLL.out; omega)] at hgn
      rw [hgn] at hszn
      have hsn : (ctOf l rs R[n]).size = sizeI l rs R[n].bar := rfl
      rw [hsn] at hszn
      have hmn : (ctOf l rs R[n]).mark = markI rs R[n].bar := rfl
      have HBN := Lib.hid (fun w hl hr => HBA.out R[n].bar hb.1 hb.2 w hl hr)
      obtain ⟨ad, dn, cd, edv⟩ := HDV.out R[n].bar hb.1 hb.2
      have hmk := HMK.out R[n].bar hb.1 hb.2
      have HGN := Lib.hid (fun k hk w => HG.out n k hlt hk w)
      have HCS := Lib.hid (checkTo_succ L a n)
      have hdn : (L.getD n noCt).mark = markI rs R[n].bar := by rw [getD_lt (by have := HLL.out; omega), hgn]; rfl
      rw [hdn] at HCS
      have hln : (L.getD n noCt).size = sizeI l rs R[n].bar := by rw [getD_lt (by have := HLL.out; omega), hgn]; rfl
      have HLN := Lib.hid hln
      have hsr := sizeB_range hszn
      generalize R[n] = cn at *
      obtain ⟨hbn0, hbn1⟩ := hb
      obtain ⟨MK, hMK⟩ : ∃ m, markI rs cn.bar = m := ⟨_, rfl⟩
      rw [hMK] at HBN edv hmk HCS
      obtain ⟨b, hbo⟩ : ∃ b, barOf l MK = b := ⟨_, rfl⟩
      rw [hbo] at HBN edv hmk
      obtain ⟨mark, size, count, code, dims, dv⟩ := b
      simp only at edv hmk
      subst edv hmk
      clear hgn hszn hsn hmn hdn hln hMK hbo
      go_wp2_with fail
      go_loopw [12, 13] (fun t i wr => ∃ k : Nat, k ≤ R.length ∧ i = .int .i64 k ∧ t = .bool (nearTo L a n k) ∧ ∃ y, wr = ext (ext W1 z) y) (fun _ i _ => R.length - (intOf i).toNat)
      case atStart => exact ⟨0, by omega, rfl, rfl, ext_of (by (repeat (first | exact grow_refl _ | refine grow_ext _ ?_ | refine grow_alloc _ ?_ | refine grow_drew ?_)))⟩
      case round =>
        obtain ⟨k, hk, rfl, rfl, y, rfl⟩ := hrel
        by_cases hlt2 : k < R.length
        · have i3 : (0 : Int) ≤ (k : Int) := by omega
          have i4 : (k : Int) < (R.length : Int) := by omega
          obtain ⟨b1, o1, e1, hq⟩ := M3.out k hlt2
          cases e1
          obtain ⟨p0, p1, p2, p3, p4, p5, p6⟩ := (hp.ext z).ext y
          obtain ⟨q0, q1, q2, q3, q4, q5, q6⟩ := (hq.ext z).ext y
          have hb := HOK.out.bar _ (List.getElem_mem hlt2)
          have hgk := HOK.out.get k hlt2
          have hszk := HOK.out.sz _ (List.getElem_mem (show k < L.length by have := HLL.out; omega))
          have hlk : (L.getD k noCt).size = sizeI l rs R[k].bar := by rw [hgk]; rfl
          rw [getD_lt (by have := HLL.out; omega)] at hlk
          rw [hlk] at hszk
          have hsk := sizeB_range hszk
          have HGK := Lib.hid (fun w => HGN.out k hlt2 w)
          have HNS := Lib.hid (nearTo_succ L a n k)
          have htoo : tooB L a n k = (decide (n ≠ k) && decide (gapK L n k < leastI (max (sizeI l rs cn.bar) (sizeI l rs R[k].bar)) a)) := by
            unfold tooB; rw [HLN.out, getD_lt (show k < L.length by have := HLL.out; omega), hlk]
          rw [htoo] at HNS
          generalize R[k] = ck at *
          obtain ⟨hbk0, hbk1⟩ := hb
          have HLE := Lib.hid (fun w => refLeast21_c (max (sizeI l rs cn.bar) (sizeI l rs ck.bar)) a (by omega) (by omega) w)
          obtain ⟨G, hG⟩ : ∃ G, gapK L n k = G := ⟨_, rfl⟩
          rw [hG] at HGK HNS
          obtain ⟨E, hE⟩ : ∃ E, leastI (max (sizeI l rs cn.bar) (sizeI l rs ck.bar)) a = E := ⟨_, rfl⟩
          rw [hE] at HLE HNS
          clear hq hgk hszk hlk htoo hG hE
          go_upto_region 10 with fail
          refine wp_region_grows (by kernel_rfl) (by kernel_rfl) ?_
          repeat (go_big_quiet_step ((go_at_call 46; refine Calls.quiet_ext (HSI.out _ ?_ ?_ _ (HL.out.below (by (repeat (first | exact grow_refl _ | exact HB.out | refine grow_ext _ ?_ | refine grow_alloc _ ?_ | refine grow_drew ?_)))) (HR.out.below (by (repeat (first | exact grow_refl _ | exact HB.out | refine grow_ext _ ?_ | refine grow_alloc _ ?_ | refine grow_drew ?_))))) <;> omega)))
          refine wpQuiet_nil ?_; rintro _ ⟨xq, rfl⟩
          cases ht : nearTo L a n k
          · rw [ht, Bool.false_or] at HNS
            by_cases hnk : n = k
            · have d1 : ((k : Int) != (n : Int)) = false := by simp [hnk]
              have HNF := Lib.hid (show nearTo L a n (k + 1) = false by rw [HNS.out, decide_eq_false (by simpa using hnk), Bool.false_and])
              clear hnk HNS ht
              go_wp2_with fail
              refine wp_region_grows (by kernel_rfl) (by kernel_rfl) ?_
              repeat (go_big_quiet_step (fail))
              refine wpQuiet_nil ?_; rintro _ ⟨xq, rfl⟩
              go_wp2
              go_roundw
              case rel => exact ⟨k + 1, by omega, by go_num, by rw [HNF.out], ext_of (by (repeat (first | exact grow_refl _ | refine grow_ext _ ?_ | refine grow_alloc _ ?_ | refine grow_drew ?_)))⟩
              case measure => simp [intOf]; omega
            · have d1 : ((k : Int) != (n : Int)) = true := by simp; omega
              have HNF := Lib.hid (show nearTo L a n (k + 1) = decide (G < E) by rw [HNS.out, decide_eq_true hnk, Bool.true_and])
              clear hnk HNS ht
              go_wp2_with fail
              refine wp_region_grows (by kernel_rfl) (by kernel_rfl) ?_
              repeat (go_big_quiet_step ((first | (go_at_call 42; exact Calls.quiet_ext (HGK.out _)) | (go_at_call 47; exact Calls.quiet_ext (HLE.out _)))))
              refine wpQuiet_nil ?_; rintro _ ⟨xq, rfl⟩
              go_wp2
              go_roundw
              case rel => exact ⟨k + 1, by omega, by go_num, by rw [HNF.out], ext_of (by (repeat (first | exact grow_refl _ | refine grow_ext _ ?_ | refine grow_alloc _ ?_ | refine grow_drew ?_)))⟩
              case measure => simp [intOf]; omega
          · have HNF := Lib.hid (show nearTo L a n (k + 1) = true by rw [HNS.out, ht, Bool.true_or])
            clear HNS ht
            go_wp2_with fail
            refine wp_region_grows (by kernel_rfl) (by kernel_rfl) ?_
            repeat (go_big_quiet_step (fail))
            refine wpQuiet_nil ?_; rintro _ ⟨xq, rfl⟩
            go_wp2
            go_roundw
            case rel => exact ⟨k + 1, by omega, by go_num, by rw [HNF.out], ext_of (by (repeat (first | exact grow_refl _ | refine grow_ext _ ?_ | refine grow_alloc _ ?_ | refine grow_drew ?_)))⟩
            case measure => simp [intOf]; omega
        · obtain rfl : k = R.length := by omega
          obtain ⟨p0, p1, p2, p3, p4, p5, p6⟩ := (hp.ext z).ext y
          have hlb : (checkTo L a n).length ≤ 12000 := by have := HTL.out n; omega
          rw [← HLL.out] at HCS
          cases ht : nearTo L a n R.length
          · rw [ht] at HCS
            have HC2 := Lib.hid (show checkTo L a (n + 1) = checkTo L a n by rw [HCS.out]; simp)
            clear HCS ht
            go_wp2
            go_roundw
            case rel => exact ⟨n + 1, by omega, by go_num, ⟨_, ext_ext _ _ _⟩, by rw [HC2.out]; exact own_ext HO.out _⟩
            case measure => simp [intOf]; omega
          · rw [ht] at HCS
            have HC2 := Lib.hid (show checkTo L a (n + 1) = checkTo L a n ++ [mark] by rw [HCS.out]; simp)
            generalize checkTo L a n = CT at *
            clear HCS ht
            go_wp2_with fail
            go_at_call 40; refine (HBN.out _ (HL.out.below (by (repeat (first | exact grow_refl _ | exact HB.out | refine grow_ext _ ?_ | refine grow_alloc _ ?_ | refine grow_drew ?_)))) (HR.out.below (by (repeat (first | exact grow_refl _ | exact HB.out | refine grow_ext _ ?_ | refine grow_alloc _ ?_ | refine grow_drew ?_))))).mono ?_; rintro e w' ⟨rfl, y2, rfl⟩
            go_wp2_with (at_builtin; refine app_own_b rfl _ _ 48 rfl 57 (.agg #[.int .i64 0, .string ⟨#[]⟩]) 2 24 Tryz.underlying48 info_fd rfl (by decide) (W1.heap.size) (.slice av CT.length cv) (CT.length) (fdCells CT) _ rfl (((own_ext (own_ext HO.out _) _).alloc _)) _ 1 1 (fdCells [mark]) rfl rfl (cells_new ?_ _ _ _ rfl) (fdCells_one _) (by omega) (by decide) ?_ ?_; (first | rfl | simp [size_ext]); (simp only [World.size_alloc, size_ext]; omega); intro v' w1 hown' hgrow; have HO2 := Lib.hid hown'; obtain ⟨a', c', rfl, _, hc2, -⟩ := own_shape hown'; have hc3 : c' ≤ 9223372036854775807 := hc2; have HGR := Lib.hid hgrow; clear hown' hgrow hc2)
            go_roundw
            case rel =>
              refine ⟨n + 1, by omega, by go_num, ?_, ?_⟩
              · exact ext_grown2 (grow_alloc _ (grow_ext _ (grow_ext _ (below_ext _ _)))) HGR.out (fun q e => (HO.out.lt q e).1)
              · rw [HC2.out]
                exact own_fds HO2.out rfl
            case measure => simp [intOf]; omega
    · obtain rfl : n = R.length := by omega
      go_wp2
      go_ret
      exact ⟨_, rfl, by rw [HCI.out, ← HLL.out]; exact own_mono HO.out HB.out.size, ext_of (by (repeat (first | exact grow_refl _ | exact HB.out | refine grow_ext _ ?_ | refine grow_alloc _ ?_ | refine grow_drew ?_)))⟩

end Go.Proofs.YtofjopdcbmaijaaGreat
