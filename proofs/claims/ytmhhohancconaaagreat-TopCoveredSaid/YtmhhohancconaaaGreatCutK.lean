/- CutA, CutB, CutC in one text. -/
import Derived.Test.YtmhhohancconaaaGreatBoxK
import Derived.Test.YtmhhohancconaaaGreatBoxK2
import Derived.Test.YtmhhohancconaaaGreatBaseK
import Derived.Test.YtmhhohancconaaaGreatExtK
import Derived.RegionTactic
import Derived.Deep.DeepCutAuto
namespace Go.Proofs.YtmhhohancconaaaGreat
open Go.RowKit
set_option maxRecDepth 20000

structure Pc where
  len : Int
  count : Int
def PcAt (w : World) (b off : Nat) (p : Pc) : Prop := w.cell? ⟨b, off, none⟩ = some (.int .i64 p.len) ∧ w.cell? ⟨b, off + 1, none⟩ = some (.int .i64 p.count)
def Pcs (w : World) (v : Value) (l : List Pc) : Prop :=
  ∃ a cap, v = .slice a l.length cap ∧ l.length ≤ cap ∧ cap ≤ 9223372036854775807 ∧ ∀ i (h : i < l.length), ∃ b off, a = some ⟨b, off, none⟩ ∧ PcAt w b (off + i * 2) l[i]
theorem PcAt.ext {w : World} {b off : Nat} {x : Pc} (h : PcAt w b off x) (y : World) : PcAt (ext w y) b off x := ⟨cell_ext_some h.1 y, cell_ext_some h.2 y⟩
theorem Pcs.ext {w : World} {v : Value} {l : List Pc} (h : Pcs w v l) (y : World) : Pcs (ext w y) v l := by
  obtain ⟨a, cap, h1, h2, h3, h4⟩ := h
  exact ⟨a, cap, h1, h2, h3, fun i hi => let ⟨b, off, e, hb⟩ := h4 i hi; ⟨b, off, e, hb.ext y⟩⟩
theorem Pcs.below {w w' : World} {v : Value} {l : List Pc} (h : Pcs w v l) (hb : Below w.heap.size w w') : Pcs w' v l := by
  obtain ⟨x, rfl⟩ := ext_of hb
  exact h.ext x

set_option maxRecDepth 100000 in
set_option maxHeartbeats 400000 in
theorem indexFunc_cPc (F : Nat) (hE : Enters F) (caps : Array Value) (p : Pc → Bool) (l : List Pc) (v : Value) (w : World) (hl : Pcs w v l)
    (hf : ∀ b x, b ∈ l → Calls Tryz.prog F (#[(.agg #[.int .i64 b.len, .int .i64 b.count])] ++ caps) (ext w x) (Ret (ext w x) (.bool (p b)))) :
    Calls Tryz.prog 67 #[v, .func (.func F) #[] caps] w (Ret w (.int .i64 (((l.findIdx? p).map (fun i : Nat => (i : Int))).getD (-1)))) := by
  obtain ⟨a, cap, rfl, h2, h3, h4⟩ := hl
  by_cases hnil : l = []
  · subst hnil
    clear hf hE h4
    go_enter Tryz.func67, Tryz.ntmps67
    go_wp2
    refine wp_loop_rounds 1 ?_
    rw [rounds_succ]
    go_wp2
    go_ret
    exact Ret.of (by (repeat (first | exact grow_refl _ | refine grow_ext _ ?_ | refine grow_alloc _ ?_ | refine grow_drew ?_)))
  · have HF := Lib.hid hf
    clear hf
    clear hnil
    have hn : l.length ≤ 9223372036854775807 := by omega
    go_enter Tryz.func67, Tryz.ntmps67
    go_wp2
    go_loopw [8, 5] (fun i j wr => ∃ k : Nat, k ≤ l.length ∧ i = .int .i64 k ∧ (∃ x, wr = ext w x) ∧ ∀ j (h : j < k) (h' : j < l.length), p l[j] = false) (fun i j _ => l.length - (intOf i).toNat)
    case atStart => exact ⟨0, by omega, rfl, ext_of (Below.refl _ _), fun j h => by omega⟩
    case round =>
      obtain ⟨k, hk, rfl, ⟨x, rfl⟩, hno⟩ := hrel
      have HNO := Lib.hid hno
      clear hno
      by_cases hlt : k < l.length
      · have hbox := h4 k hlt
        have hcall := HF.out l[k] x (List.getElem_mem hlt)
        obtain ⟨b, off, rfl, c0, c1⟩ := hbox
        have H4 := Lib.hid h4
        have HC := Lib.hid hcall
        clear h4 hcall
        go_wp2_with fail
        rw [show ∀ (a : Array Value) (w : World), (callFunc F a).run Tryz.prog w = .ok (.enter F a) w from hE, Oper.upon_enter]
        refine HC.out.mono ?_
        rintro e w' ⟨rfl, y, rfl⟩
        cases hp : p l[k]
        · have HP := Lib.hid hp
          clear hp
          go_wp2
          go_roundw
          case rel => exact ⟨k + 1, by omega, by go_num, ⟨_, ext_ext _ _ _⟩, fun j h1 h2 => by
            rcases Nat.lt_or_ge j k with h | h
            · exact HNO.out j h h2
            · obtain rfl : j = k := by omega
              exact HP.out⟩
          case measure => simp [intOf]; omega
        · have he : l.findIdx? p = some k := by
            rw [List.findIdx?_eq_some_iff_getElem]
            exact ⟨hlt, hp, fun j hj => by simp [HNO.out j hj (by omega)]⟩
          have HE := Lib.hid he
          clear he hp
          go_wp2
          go_ret
          rw [HE.out]
          exact Ret.of (by (repeat (first | exact grow_refl _ | refine grow_ext _ ?_ | refine grow_alloc _ ?_ | refine grow_drew ?_)))
      · have he : l.findIdx? p = none := by
          rw [List.findIdx?_eq_none_iff]
          intro z hz
          obtain ⟨j, hj, rfl⟩ := List.getElem_of_mem hz
          exact HNO.out j (by omega) hj
        have HE := Lib.hid he
        clear he
        have H4 := Lib.hid h4
        clear h4
        go_wp2
        go_ret
        rw [HE.out]
        exact Ret.of (by (repeat (first | exact grow_refl _ | refine grow_ext _ ?_ | refine grow_alloc _ ?_ | refine grow_drew ?_)))

theorem find_anyPc {p : Pc → Bool} {l : List Pc} : (decide (0 ≤ (((l.findIdx? p).map (fun i : Nat => (i : Int))).getD (-1)))) = l.any p := by
  cases h : l.findIdx? p with
  | none =>
    have := List.findIdx?_eq_none_iff.1 h
    simp only [Option.map_none, Option.getD_none]
    rw [show (decide ((0 : Int) ≤ -1)) = false from rfl]
    symm; rw [List.any_eq_false]; intro x hx; simp [this x hx]
  | some k =>
    rw [List.findIdx?_eq_some_iff_getElem] at h
    obtain ⟨hk, hp, _⟩ := h
    simp only [Option.map_some, Option.getD_some]
    rw [show decide ((0 : Int) ≤ (k : Int)) = true from by simp]
    symm; rw [List.any_eq_true]; exact ⟨_, List.getElem_mem hk, hp⟩

set_option maxRecDepth 100000 in
set_option maxHeartbeats 400000 in
theorem containsFunc_cPc (F : Nat) (hE : Enters F) (caps : Array Value) (p : Pc → Bool) (l : List Pc) (v : Value) (w : World) (hl : Pcs w v l)
    (hf : ∀ b x, b ∈ l → Calls Tryz.prog F (#[(.agg #[.int .i64 b.len, .int .i64 b.count])] ++ caps) (ext w x) (Ret (ext w x) (.bool (p b)))) :
    Calls Tryz.prog 40 #[v, .func (.func F) #[] caps] w (Ret w (.bool (l.any p))) := by
  have hfa := Lib.hid (@find_anyPc p l)
  have hi := Lib.hid (indexFunc_cPc F hE caps p l v w hl hf)
  clear hf hl
  go_enter Tryz.func40, Tryz.ntmps40
  go_wp2_with fail
  refine hi.out.mono ?_; rintro e w' ⟨rfl, x, rfl⟩
  generalize (((l.findIdx? p).map (fun i : Nat => (i : Int))).getD (-1)) = r at hfa ⊢
  go_wp2
  go_ret
  rw [← hfa.out]
  exact Ret.of (by (repeat (first | exact grow_refl _ | refine grow_ext _ ?_ | refine grow_alloc _ ?_ | refine grow_drew ?_)))

/-- The pieces of the sample. -/
def pcsS : List Pc := [⟨60, 2⟩, ⟨40, 2⟩]
/-- The slice of them, in its block. -/
def PcsB (w : World) (g : Nat) : Prop := Blk w g #[.int .i64 60, .int .i64 2, .int .i64 40, .int .i64 2] 68
theorem PcsB.pcs {w : World} {g : Nat} (h : PcsB w g) : Pcs w (.slice (some ⟨g, 0, none⟩) 2 2) pcsS := by
  refine ⟨_, 2, rfl, Nat.le_refl _, by decide, fun i hi => ⟨g, 0, rfl, ?_⟩⟩
  have hi2 : i < 2 := hi
  rcases (show i = 0 ∨ i = 1 by omega) with rfl | rfl
  · exact ⟨h.cell 0, h.cell 1⟩
  · exact ⟨h.cell 2, h.cell 3⟩
theorem mem_pcsS {c : Pc} (h : c ∈ pcsS) : c = ⟨60, 2⟩ ∨ c = ⟨40, 2⟩ := by simpa [pcsS] using h

set_option maxHeartbeats 1000000 in
theorem order1_c (c : Pc) (h : c ∈ pcsS) (w : World) : Calls Tryz.prog 65 #[(.agg #[.int .i64 c.len, .int .i64 c.count])] w (Ret w (.bool false)) := by
  have hl : ∀ n : Int, 1 ≤ n → n ≤ 1000 → ∀ w, Calls Tryz.prog 66 #[.int .i64 n] w (Ret w (.bool true)) := fun n h1 h2 w => by
    have d1 : decide (1 ≤ n) = true := by simpa using h1
    have d2 : decide (n ≤ 1048576) = true := by simp; omega
    go_enter Tryz.func66, Tryz.ntmps66
    go_wp2
    go_ret
    exact Ret.of (by (repeat (first | exact grow_refl _ | refine grow_ext _ ?_ | refine grow_alloc _ ?_ | refine grow_drew ?_)))
  rcases mem_pcsS h with rfl | rfl
  · clear h
    have HLN := Lib.hid (hl 60 (by decide) (by decide))
    clear hl
    go_enter Tryz.func65, Tryz.ntmps65
    go_wp2_with fail
    go_at_call 66; refine (HLN.out _).mono ?_; rintro e w' ⟨rfl, x, rfl⟩
    go_wp2
    go_ret
    exact Ret.of (by (repeat (first | exact grow_refl _ | refine grow_ext _ ?_ | refine grow_alloc _ ?_ | refine grow_drew ?_)))
  · clear h
    have HLN := Lib.hid (hl 40 (by decide) (by decide))
    clear hl
    go_enter Tryz.func65, Tryz.ntmps65
    go_wp2_with fail
    go_at_call 66; refine (HLN.out _).mono ?_; rintro e w' ⟨rfl, x, rfl⟩
    go_wp2
    go_ret
    exact Ret.of (by (repeat (first | exact grow_refl _ | refine grow_ext _ ?_ | refine grow_alloc _ ?_ | refine grow_drew ?_)))
theorem enters_order1 : Enters 65 := enters_of Tryz.func65 (by decide) (by simp [Tryz.f65])
set_option maxHeartbeats 1000000 in
theorem orderS_c (g : Nat) (w : World) (h : PcsB w g) : Calls Tryz.prog 39 #[.slice (some ⟨g, 0, none⟩) 2 2] w (Ret w (.bool true)) := by
  have HC := Lib.hid (containsFunc_cPc 65 enters_order1 #[] (fun _ => false) pcsS _ w h.pcs (fun b x hb => order1_c b hb _))
  clear h
  go_enter Tryz.func39, Tryz.ntmps39
  go_wp2_with fail
  go_at_call 40; refine (HC.out).mono ?_; rintro e w' ⟨rfl, x, rfl⟩
  go_wp2
  go_ret
  exact Ret.of (by (repeat (first | exact grow_refl _ | refine grow_ext _ ?_ | refine grow_alloc _ ?_ | refine grow_drew ?_)))
set_option maxHeartbeats 1000000 in
theorem least1_c (c : Pc) (h : c ∈ pcsS) (g2 : Nat) (w : World) (hg : w.cell? ⟨g2, 0, none⟩ = some (.int .i64 100)) : Calls Tryz.prog 41 #[(.agg #[.int .i64 c.len, .int .i64 c.count]), .pointer (some ⟨g2, 0, none⟩)] w (Ret w (.bool false)) := by
  rcases mem_pcsS h with rfl | rfl
  all_goals
    clear h
    go_enter Tryz.func41, Tryz.ntmps41
    go_wp2
    go_ret
    exact Ret.of (by (repeat (first | exact grow_refl _ | refine grow_ext _ ?_ | refine grow_alloc _ ?_ | refine grow_drew ?_)))
theorem enters_least1 : Enters 41 := enters_of Tryz.func41 (by decide) (by simp [Tryz.f41])

/-- What comes back from a call that hands back nothing, when memory was only made. -/
def RetU (w : World) (e : Ending) (W : World) : Prop := (∃ v, e = .returned v) ∧ ∃ x, W = ext w x
set_option maxHeartbeats 1000000 in
/-- The two pieces' lengths compared: the second is the shorter one. -/
theorem longest1_c (g t2 : Nat) (w : World) (h : PcsB w g) (ht : w.cell? ⟨t2, 0, none⟩ = some (.slice (some ⟨g, 0, none⟩) 2 2)) : Calls Tryz.prog 69 #[.int .i64 1, .int .i64 0, .pointer (some ⟨t2, 0, none⟩)] w (Ret w (.int .i64 20)) := by
  have c0 : w.cell? ⟨g, 0, none⟩ = some (.int .i64 60) := h.cell 0
  have c2 : w.cell? ⟨g, 2, none⟩ = some (.int .i64 40) := h.cell 2
  clear h
  go_enter Tryz.func69, Tryz.ntmps69
  go_wp2_with fail
  refine wp_region_grows (by kernel_rfl) (by kernel_rfl) ?_
  repeat (go_big_quiet_step (fail))
  refine wpQuiet_nil ?_; rintro _ ⟨xq, rfl⟩
  go_wp2
  go_ret
  exact Ret.of (by (repeat (first | exact grow_refl _ | refine grow_ext _ ?_ | refine grow_alloc _ ?_ | refine grow_drew ?_)))
theorem enters_longest1 : Enters 69 := enters_of Tryz.func69 (by decide) (by simp [Tryz.f69])

end Go.Proofs.YtmhhohancconaaaGreat

namespace Go.Proofs.YtmhhohancconaaaGreat
open Go.RowKit
set_option maxRecDepth 20000

/-- Two lines in a row of one's own, and the pieces behind them. -/
def Ord2 (w : World) (go g t2 : Nat) : Prop := w.cell? ⟨go, 0, none⟩ = some (.int .i64 0) ∧ w.cell? ⟨go, 1, none⟩ = some (.int .i64 1) ∧ PcsB w g ∧ w.cell? ⟨t2, 0, none⟩ = some (.slice (some ⟨g, 0, none⟩) 2 2)
theorem Ord2.below {w w' : World} {go g t2 : Nat} (h : Ord2 w go g t2) (hb : Below w.heap.size w w') : Ord2 w' go g t2 := by
  obtain ⟨h1, h2, h3, h4⟩ := h
  refine ⟨?_, ?_, Blk.below h3 hb, ?_⟩ <;> (obtain ⟨x, rfl⟩ := ext_of hb; apply cell_ext_some; assumption)
set_option maxRecDepth 100000 in
set_option maxHeartbeats 2000000 in
theorem insertion2_c (go g t2 c : Nat) (w : World) (h : Ord2 w go g t2) :
    Calls Tryz.prog 115 #[.slice (some ⟨go, 0, none⟩) 2 c, .int .i64 0, .int .i64 2, .func (.func 69) #[] #[.pointer (some ⟨t2, 0, none⟩)]] w (RetU w) := by
  have HC := Lib.hid (fun w h3 h4 => longest1_c g t2 w h3 h4)
  have HO := Lib.hid h
  obtain ⟨h1, h2, h3, h4⟩ := h
  clear h3 h4
  go_enter Tryz.func115, Tryz.ntmps115
  go_wp2
  refine wp_loop_rounds 2 ?_
  rw [rounds_succ]
  go_wp2
  refine wp_loop_rounds 1 ?_
  rw [rounds_succ]
  go_wp2_with fail
  refine wp_region_grows (by kernel_rfl) (by kernel_rfl) ?_
  repeat (go_big_quiet_step ((go_at_call 69; exact Calls.quiet_ext (HC.out _ (HO.out.below (by (repeat (first | exact grow_refl _ | refine grow_ext _ ?_ | refine grow_alloc _ ?_ | refine grow_drew ?_)))).2.2.1 (HO.out.below (by (repeat (first | exact grow_refl _ | refine grow_ext _ ?_ | refine grow_alloc _ ?_ | refine grow_drew ?_)))).2.2.2))))
  refine wpQuiet_nil ?_; rintro _ ⟨xq, rfl⟩
  go_wp2
  rw [rounds_succ]
  go_wp2
  go_end0
  exact ⟨⟨_, rfl⟩, ext_of (by (repeat (first | exact grow_refl _ | refine grow_ext _ ?_ | refine grow_alloc _ ?_ | refine grow_drew ?_)))⟩
set_option maxRecDepth 100000 in
set_option maxHeartbeats 2000000 in
theorem stable2_c (go g t2 c : Nat) (w : World) (h : Ord2 w go g t2) :
    Calls Tryz.prog 97 #[.slice (some ⟨go, 0, none⟩) 2 c, .int .i64 2, .func (.func 69) #[] #[.pointer (some ⟨t2, 0, none⟩)]] w (RetU w) := by
  have HI := Lib.hid (fun w h => insertion2_c go g t2 c w h)
  have HO := Lib.hid h
  clear h
  go_enter Tryz.func97, Tryz.ntmps97
  go_wp2
  refine wp_loop_rounds 1 ?_
  rw [rounds_succ]
  go_wp2_with fail
  go_at_call 115; refine (HI.out _ (HO.out.below (by (repeat (first | exact grow_refl _ | refine grow_ext _ ?_ | refine grow_alloc _ ?_ | refine grow_drew ?_))))).mono ?_; rintro e w' ⟨⟨v, rfl⟩, x, rfl⟩
  go_wp2
  refine wp_loop_rounds 1 ?_
  rw [rounds_succ]
  go_wp2
  go_end0
  exact ⟨⟨_, rfl⟩, ext_of (by (repeat (first | exact grow_refl _ | refine grow_ext _ ?_ | refine grow_alloc _ ?_ | refine grow_drew ?_)))⟩
set_option maxRecDepth 100000 in
set_option maxHeartbeats 2000000 in
theorem sortStable2_c (go g t2 c : Nat) (w : World) (h : Ord2 w go g t2) :
    Calls Tryz.prog 68 #[.slice (some ⟨go, 0, none⟩) 2 c, .func (.func 69) #[] #[.pointer (some ⟨t2, 0, none⟩)]] w (RetU w) := by
  have HI := Lib.hid (fun w h => stable2_c go g t2 c w h)
  have HO := Lib.hid h
  clear h
  go_enter Tryz.func68, Tryz.ntmps68
  go_wp2_with fail
  go_at_call 97; refine (HI.out _ (HO.out.below (by (repeat (first | exact grow_refl _ | refine grow_ext _ ?_ | refine grow_alloc _ ?_ | refine grow_drew ?_))))).mono ?_; rintro e w' ⟨⟨v, rfl⟩, x, rfl⟩
  go_wp2
  go_end0
  exact ⟨⟨_, rfl⟩, ext_of (by (repeat (first | exact grow_refl _ | refine grow_ext _ ?_ | refine grow_alloc _ ?_ | refine grow_drew ?_)))⟩

end Go.Proofs.YtmhhohancconaaaGreat

namespace Go.Proofs.YtmhhohancconaaaGreat
open Go.RowKit
set_option maxRecDepth 20000

set_option maxRecDepth 100000 in
set_option maxHeartbeats 8000000 in
theorem longestS_c (g : Nat) (w : World) (h : PcsB w g) : Calls Tryz.prog 42 #[.slice (some ⟨g, 0, none⟩) 2 2] w (RetOwn w 3 1 4 [.int .i64 0, .int .i64 0, .int .i64 1, .int .i64 1]) := by
  have HP := Lib.hid h
  clear h
  go_enter Tryz.func42, Tryz.ntmps42
  go_upto_region 2 with fail
  refine world_mask (fun W => Below w.heap.size w W ∧ Blk W w.heap.size #[.slice (some ⟨g, 0, none⟩) 2 2] 69) _ ⟨by (repeat (first | exact grow_refl _ | refine grow_ext _ ?_ | refine grow_alloc _ ?_ | refine grow_drew ?_)), Blk.new _ _ _⟩ ?_
  rintro W0 ⟨hb, hb1⟩
  have HB := Lib.hid hb
  have HB1 := Lib.hid hb1
  have c1 : W0.cell? ⟨w.heap.size, 0, none⟩ = some (.slice (some ⟨g, 0, none⟩) 2 2) := hb1.cell 0
  have HPB := Lib.hid (Blk.below HP.out hb)
  clear hb hb1
  go_wp2
  refine wp_loop_rounds 3 ?_
  rw [rounds_succ]
  go_wp2_with (at_builtin; refine app_own rfl _ _ 49 rfl 3 (.int .i64 0) 1 8 Tryz.underlying49 info_int rfl (by decide) W0 _ _ _ _ rfl (World.ownsRow_nil _ _ _ _) _ 1 1 [.int .i64 0] rfl rfl (cells_new ?_ _ _ _ rfl) (by simp [Value.oneCell']) ?_ (by decide) ?_ ?_; (simp [size_ext]); (decide); ((repeat (first | exact grow_refl _ | refine grow_ext _ ?_ | refine grow_alloc _ ?_ | refine grow_drew ?_))); intro v1 x1 hown1 _)
  obtain ⟨a1, d1, rfl, -, k1, -⟩ := own_shape hown1
  have k1' : d1 ≤ 9223372036854775807 := k1
  rw [rounds_succ]
  go_wp2_with (at_builtin; refine app_own rfl _ _ 49 rfl 3 (.int .i64 0) 1 8 Tryz.underlying49 info_int rfl (by decide) W0 _ _ _ _ rfl (hown1.alloc _) _ 1 1 [.int .i64 1] rfl rfl (cells_new ?_ _ _ _ rfl) (by simp [Value.oneCell']) ?_ (by decide) ?_ ?_; (simp [size_ext]); (decide); ((repeat (first | exact grow_refl _ | refine grow_ext _ ?_ | refine grow_alloc _ ?_ | refine grow_drew ?_))); intro v2 x2 hown2 _)
  obtain ⟨a2, d2, rfl, -, k2, hc2⟩ := own_shape hown2
  obtain ⟨go, rfl, hgo, hcells⟩ := hc2 (by decide)
  have k2' : d2 ≤ 9223372036854775807 := k2
  clear hown1 k1 k1'
  rw [rounds_succ]
  go_wp2_with fail
  have ho : Ord2 (ext W0 x2) go g w.heap.size := ⟨hcells 0 (by decide), hcells 1 (by decide), Blk.ext HPB.out x2, (HB1.out.ext x2).cell 0⟩
  have HO := Lib.hid ho
  clear ho hcells c1
  go_at_call 68; refine (sortStable2_c go g w.heap.size d2 _ (HO.out.below (by (repeat (first | exact grow_refl _ | refine grow_ext _ ?_ | refine grow_alloc _ ?_ | refine grow_drew ?_))))).mono ?_; rintro e w' ⟨⟨vv, rfl⟩, x3, rfl⟩
  refine world_mask (fun W => Below w.heap.size w W ∧ Ord2 W go g w.heap.size) _ ⟨HB.out.trans (Below.mono (by (repeat (first | exact grow_refl _ | refine grow_ext _ ?_ | refine grow_alloc _ ?_ | refine grow_drew ?_))) HB.out.size), HO.out.below (by (repeat (first | exact grow_refl _ | refine grow_ext _ ?_ | refine grow_alloc _ ?_ | refine grow_drew ?_)))⟩ ?_
  clear HO hown2 k2
  rintro W1 ⟨hb, ho⟩
  have HB2 := Lib.hid hb
  have HO := Lib.hid ho
  obtain ⟨o0, o1, o2, o3⟩ := ho
  have p1 : W1.cell? ⟨g, 1, none⟩ = some (.int .i64 2) := Blk.cell o2 1
  have p3 : W1.cell? ⟨g, 3, none⟩ = some (.int .i64 2) := Blk.cell o2 3
  clear hb o2 HB HB1 HPB HP
  go_wp2
  refine wp_loop_rounds 3 ?_
  rw [rounds_succ]
  go_wp2
  refine wp_loop_rounds 3 ?_
  rw [rounds_succ]
  go_wp2_with (at_builtin; refine app_own rfl _ _ 49 rfl 3 (.int .i64 0) 1 8 Tryz.underlying49 info_int rfl (by decide) W1 _ _ _ _ rfl (World.ownsRow_nil _ _ _ _) _ 1 1 [.int .i64 0] rfl rfl (cells_new ?_ _ _ _ rfl) (by simp [Value.oneCell']) ?_ (by decide) ?_ ?_; (simp [size_ext]); (decide); ((repeat (first | exact grow_refl _ | refine grow_ext _ ?_ | refine grow_alloc _ ?_ | refine grow_drew ?_))); intro v4 x4 hown4 _)
  obtain ⟨e1, f1, rfl, -, k1, -⟩ := own_shape hown4
  have k1' : f1 ≤ 9223372036854775807 := k1
  rw [rounds_succ]
  go_wp2_with (at_builtin; refine app_own rfl _ _ 49 rfl 3 (.int .i64 0) 1 8 Tryz.underlying49 info_int rfl (by decide) W1 _ _ _ _ rfl (hown4.alloc _) _ 1 1 [.int .i64 0] rfl rfl (cells_new ?_ _ _ _ rfl) (by simp [Value.oneCell']) ?_ (by decide) ?_ ?_; (simp [size_ext]); (decide); ((repeat (first | exact grow_refl _ | refine grow_ext _ ?_ | refine grow_alloc _ ?_ | refine grow_drew ?_))); intro v5 x5 hown5 _)
  obtain ⟨e2, f2, rfl, -, k2, -⟩ := own_shape hown5
  have k2'' : f2 ≤ 9223372036854775807 := k2
  rw [rounds_succ]
  go_wp2
  rw [rounds_succ]
  go_wp2
  refine wp_loop_rounds 3 ?_
  rw [rounds_succ]
  go_wp2_with (at_builtin; refine app_own rfl _ _ 49 rfl 3 (.int .i64 0) 1 8 Tryz.underlying49 info_int rfl (by decide) W1 _ _ _ _ rfl (hown5.alloc _) _ 1 1 [.int .i64 1] rfl rfl (cells_new ?_ _ _ _ rfl) (by simp [Value.oneCell']) ?_ (by decide) ?_ ?_; (simp [size_ext]); (decide); ((repeat (first | exact grow_refl _ | refine grow_ext _ ?_ | refine grow_alloc _ ?_ | refine grow_drew ?_))); intro v6 x6 hown6 _)
  obtain ⟨e3, f3, rfl, -, k3, -⟩ := own_shape hown6
  have k3' : f3 ≤ 9223372036854775807 := k3
  rw [rounds_succ]
  go_wp2_with (at_builtin; refine app_own rfl _ _ 49 rfl 3 (.int .i64 0) 1 8 Tryz.underlying49 info_int rfl (by decide) W1 _ _ _ _ rfl (hown6.alloc _) _ 1 1 [.int .i64 1] rfl rfl (cells_new ?_ _ _ _ rfl) (by simp [Value.oneCell']) ?_ (by decide) ?_ ?_; (simp [size_ext]); (decide); ((repeat (first | exact grow_refl _ | refine grow_ext _ ?_ | refine grow_alloc _ ?_ | refine grow_drew ?_))); intro v7 x7 hown7 _)
  obtain ⟨e4, f4, rfl, -, k4, -⟩ := own_shape hown7
  have k4' : f4 ≤ 9223372036854775807 := k4
  rw [rounds_succ]
  go_wp2
  rw [rounds_succ]
  go_wp2
  go_ret
  exact ⟨_, rfl, own_mono hown7 HB2.out.size, ext_of (HB2.out.trans (Below.mono (by (repeat (first | exact grow_refl _ | refine grow_ext _ ?_ | refine grow_alloc _ ?_ | refine grow_drew ?_))) HB2.out.size))⟩

end Go.Proofs.YtmhhohancconaaaGreat

