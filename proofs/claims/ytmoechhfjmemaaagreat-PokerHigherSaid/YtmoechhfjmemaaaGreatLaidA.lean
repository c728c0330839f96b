/- Bars of a schedule and runs of laid bars: slices of them. -/
import Derived.Test.YtmoechhfjmemaaaGreatBoxK
namespace Go.Proofs.YtmoechhfjmemaaaGreat
open Go.RowKit
set_option maxRecDepth 20000

structure Pt where
  x : Int
  y : Int
  z : Int
deriving DecidableEq
structure Br where
  mark : ByteArray
  size : Int
  count : Int
  code : Int
  dims : List Int
  dv : Value
structure Rn where
  mark : ByteArray
  tx : Int
  ty : Int
  ax : Int
  ay : Int
  az : Int
  sx : Int
  sy : Int
  sz : Int
  count : Int

/-- A slice value, nil or not, that reads as a list of numbers. -/
def Dims (w : World) (v : Value) (l : List Int) : Prop :=
  ∃ a cap, v = .slice a l.length cap ∧ l.length ≤ cap ∧ cap ≤ 9223372036854775807 ∧ ∀ i (h : i < l.length), ∃ b off, a = some ⟨b, off, none⟩ ∧ w.cell? ⟨b, off + i, none⟩ = some (.int .i64 l[i])
theorem Dims.ext {w : World} {v : Value} {l : List Int} (h : Dims w v l) (y : World) : Dims (ext w y) v l := by
  obtain ⟨a, cap, h1, h2, h3, h4⟩ := h
  exact ⟨a, cap, h1, h2, h3, fun i hi => let ⟨b, off, e, hb⟩ := h4 i hi; ⟨b, off, e, cell_ext_some hb y⟩⟩
theorem Dims.below {w w' : World} {v : Value} {l : List Int} (h : Dims w v l) (hb : Below w.heap.size w w') : Dims w' v l := by
  obtain ⟨x, rfl⟩ := ext_of hb
  exact h.ext x
def BrAt (w : World) (b off : Nat) (f : Br) : Prop :=
  w.cell? ⟨b, off, none⟩ = some (.string f.mark) ∧ w.cell? ⟨b, off + 1, none⟩ = some (.int .i64 f.size) ∧ w.cell? ⟨b, off + 2, none⟩ = some (.int .i64 f.count) ∧
  w.cell? ⟨b, off + 3, none⟩ = some (.int .i64 f.code) ∧ w.cell? ⟨b, off + 4, none⟩ = some f.dv
theorem BrAt.ext {w : World} {b off : Nat} {f : Br} (h : BrAt w b off f) (y : World) : BrAt (ext w y) b off f :=
  ⟨cell_ext_some h.1 y, cell_ext_some h.2.1 y, cell_ext_some h.2.2.1 y, cell_ext_some h.2.2.2.1 y, cell_ext_some h.2.2.2.2 y⟩
/-- What a bar's parts are: its mark is no longer than a string can be, its dimensions read as they should. -/
structure BrOk (w : World) (f : Br) : Prop where
  mark : f.mark.size ≤ 9223372036854775807
  dims : Dims w f.dv f.dims
theorem BrOk.ext {w : World} {f : Br} (h : BrOk w f) (y : World) : BrOk (ext w y) f := ⟨h.mark, h.dims.ext y⟩
theorem BrOk.below {w w' : World} {f : Br} (h : BrOk w f) (hb : Below w.heap.size w w') : BrOk w' f := ⟨h.mark, h.dims.below hb⟩
/-- A slice value that reads as a list of bars. -/
def Bars (w : World) (v : Value) (l : List Br) : Prop :=
  ∃ a cap, v = .slice a l.length cap ∧ l.length ≤ cap ∧ cap ≤ 9223372036854775807 ∧ ∀ i (h : i < l.length), BrOk w l[i] ∧ ∃ b off, a = some ⟨b, off, none⟩ ∧ BrAt w b (off + i * 5) l[i]
theorem Bars.ext {w : World} {v : Value} {l : List Br} (h : Bars w v l) (y : World) : Bars (ext w y) v l := by
  obtain ⟨a, cap, h1, h2, h3, h4⟩ := h
  exact ⟨a, cap, h1, h2, h3, fun i hi => let ⟨hk, b, off, e, hb⟩ := h4 i hi; ⟨hk.ext y, b, off, e, hb.ext y⟩⟩
theorem Bars.below {w w' : World} {v : Value} {l : List Br} (h : Bars w v l) (hb : Below w.heap.size w w') : Bars w' v l := by
  obtain ⟨x, rfl⟩ := ext_of hb
  exact h.ext x
theorem Bars.shape {w : World} {v : Value} {l : List Br} (h : Bars w v l) : ∃ a cap, v = .slice a l.length cap ∧ l.length ≤ cap ∧ cap ≤ 9223372036854775807 ∧
    ∀ i (h : i < l.length), BrOk w l[i] ∧ ∃ b off, a = some ⟨b, off, none⟩ ∧ BrAt w b (off + i * 5) l[i] := h
def RnAt (w : World) (b off : Nat) (r : Rn) : Prop :=
  w.cell? ⟨b, off, none⟩ = some (.string r.mark) ∧ w.cell? ⟨b, off + 1, none⟩ = some (.int .i64 r.tx) ∧ w.cell? ⟨b, off + 2, none⟩ = some (.int .i64 r.ty) ∧
  w.cell? ⟨b, off + 3, none⟩ = some (.int .i64 r.ax) ∧ w.cell? ⟨b, off + 4, none⟩ = some (.int .i64 r.ay) ∧ w.cell? ⟨b, off + 5, none⟩ = some (.int .i64 r.az) ∧
  w.cell? ⟨b, off + 6, none⟩ = some (.int .i64 r.sx) ∧ w.cell? ⟨b, off + 7, none⟩ = some (.int .i64 r.sy) ∧ w.cell? ⟨b, off + 8, none⟩ = some (.int .i64 r.sz) ∧ w.cell? ⟨b, off + 9, none⟩ = some (.int .i64 r.count)
theorem RnAt.ext {w : World} {b off : Nat} {r : Rn} (h : RnAt w b off r) (y : World) : RnAt (ext w y) b off r := by
  obtain ⟨h0, h1, h2, h3, h4, h5, h6, h7, h8, h9⟩ := h
  exact ⟨cell_ext_some h0 y, cell_ext_some h1 y, cell_ext_some h2 y, cell_ext_some h3 y, cell_ext_some h4 y, cell_ext_some h5 y, cell_ext_some h6 y, cell_ext_some h7 y, cell_ext_some h8 y, cell_ext_some h9 y⟩
/-- A slice value that reads as a list of runs. -/
def Runs (w : World) (v : Value) (l : List Rn) : Prop :=
  ∃ a cap, v = .slice a l.length cap ∧ l.length ≤ cap ∧ cap ≤ 9223372036854775807 ∧ ∀ i (h : i < l.length), l[i].mark.size ≤ 9223372036854775807 ∧ ∃ b off, a = some ⟨b, off, none⟩ ∧ RnAt w b (off + i * 10) l[i]
theorem Runs.ext {w : World} {v : Value} {l : List Rn} (h : Runs w v l) (y : World) : Runs (ext w y) v l := by
  obtain ⟨a, cap, h1, h2, h3, h4⟩ := h
  exact ⟨a, cap, h1, h2, h3, fun i hi => let ⟨hk, b, off, e, hb⟩ := h4 i hi; ⟨hk, b, off, e, hb.ext y⟩⟩
theorem Runs.below {w w' : World} {v : Value} {l : List Rn} (h : Runs w v l) (hb : Below w.heap.size w w') : Runs w' v l := by
  obtain ⟨x, rfl⟩ := ext_of hb
  exact h.ext x
theorem Runs.shape {w : World} {v : Value} {l : List Rn} (h : Runs w v l) : ∃ a cap, v = .slice a l.length cap ∧ l.length ≤ cap ∧ cap ≤ 9223372036854775807 ∧
    ∀ i (h : i < l.length), l[i].mark.size ≤ 9223372036854775807 ∧ ∃ b off, a = some ⟨b, off, none⟩ ∧ RnAt w b (off + i * 10) l[i] := h

theorem sEq {a b : ByteArray} (h : a = b) : (a.toList == b.toList) = true := by subst h; exact beq_self_eq_true _
theorem sNe {a b : ByteArray} (h : ¬ a = b) : (a.toList == b.toList) = false := by
  rw [beq_eq_false_iff_ne]
  intro e
  rw [ByteArray.toList_eq, ByteArray.toList_eq] at e
  exact h (ByteArray.ext (Array.ext' e))
theorem sEq_iff {a b : ByteArray} : (a.toList == b.toList) = true ↔ a = b := by
  by_cases h : a = b
  · exact ⟨fun _ => h, sEq⟩
  · rw [sNe h]; exact ⟨fun e => absurd e Bool.false_ne_true, fun e => absurd e h⟩

/-- The index of a mark: -1 if there is none. -/
def findI (l : List Br) (m : ByteArray) : Int := ((l.findIdx? fun b => b.mark.toList == m.toList).map (fun i : Nat => (i : Int))).getD (-1)
theorem findI_none {l : List Br} {m : ByteArray} (h : ∀ j (h : j < l.length), (l[j].mark.toList == m.toList) = false) : findI l m = -1 := by
  unfold findI
  rw [List.findIdx?_eq_none_iff.2 fun z hz => by obtain ⟨j, hj, rfl⟩ := List.getElem_of_mem hz; exact h j hj]; rfl
theorem findI_some {l : List Br} {m : ByteArray} {k : Nat} (hk : k < l.length) (hp : (l[k].mark.toList == m.toList) = true) (h : ∀ j (hj : j < k), (l[j].mark.toList == m.toList) = false) : findI l m = k := by
  unfold findI
  rw [List.findIdx?_eq_some_iff_getElem.2 ⟨hk, hp, fun j hj => by simpa using h j hj⟩]; rfl
theorem findI_cases (l : List Br) (m : ByteArray) : (findI l m = -1 ∧ ∀ j (h : j < l.length), (l[j].mark.toList == m.toList) = false) ∨ ∃ (k : Nat) (hk : k < l.length), findI l m = k ∧ (l[k].mark.toList == m.toList) = true ∧ ∀ j (hj : j < k), (l[j].mark.toList == m.toList) = false := by
  cases h : l.findIdx? fun b => b.mark.toList == m.toList with
  | none =>
    have hn : ∀ j (h : j < l.length), (l[j].mark.toList == m.toList) = false := fun j hj => List.findIdx?_eq_none_iff.1 h _ (List.getElem_mem hj)
    exact .inl ⟨findI_none hn, hn⟩
  | some k =>
    obtain ⟨hk, hp, hno⟩ := List.findIdx?_eq_some_iff_getElem.1 h
    have hn : ∀ j (hj : j < k), (l[j].mark.toList == m.toList) = false := fun j hj => by simpa using hno j hj
    exact .inr ⟨k, hk, findI_some hk hp hn, hp, hn⟩

set_option maxRecDepth 100000 in
set_option maxHeartbeats 1000000 in
theorem indexBar_c (F : Nat) (hE : Enters F) (caps : Array Value) (m : ByteArray) (l : List Br) (v : Value) (w : World) (hl : Bars w v l)
    (hf : ∀ b x, b ∈ l → Calls Tryz.prog F (#[(.agg #[.string b.mark, .int .i64 b.size, .int .i64 b.count, .int .i64 b.code, b.dv])] ++ caps) (ext w x) (Ret (ext w x) (.bool (b.mark.toList == m.toList)))) :
    Calls Tryz.prog 164 #[v, .func (.func F) #[] caps] w (Ret w (.int .i64 (findI l m))) := by
  obtain ⟨a, cap, rfl, h2, h3, h4⟩ := hl
  by_cases hnil : l = []
  · subst hnil
    clear hf hE h4
    go_enter Tryz.func164, Tryz.ntmps164
    go_wp2
    refine wp_loop_rounds 1 ?_
    rw [rounds_succ]
    go_wp2
    go_ret
    exact Ret.of (by (repeat (first | exact grow_refl _ | refine grow_ext _ ?_ | refine grow_alloc _ ?_ | refine grow_drew ?_)))
  · have HF := Lib.hid hf
    clear hf
    clear hnil
    have hn : l.length ≤ 9223372036854775807 := by omega
    have H4 := Lib.hid h4
    clear h4
    go_enter Tryz.func164, Tryz.ntmps164
    go_wp2
    go_loopw [8, 5] (fun i j wr => ∃ k : Nat, k ≤ l.length ∧ i = .int .i64 k ∧ (∃ x, wr = ext w x) ∧ ∀ j (h : j < k) (h' : j < l.length), (l[j].mark.toList == m.toList) = false) (fun i j _ => l.length - (intOf i).toNat)
    case atStart => exact ⟨0, by omega, rfl, ext_of (Below.refl _ _), fun j h => by omega⟩
    case round =>
      obtain ⟨k, hk, rfl, ⟨x, rfl⟩, hno⟩ := hrel
      have HNO := Lib.hid hno
      clear hno
      by_cases hlt : k < l.length
      · obtain ⟨b, off, rfl, hb⟩ := (H4.out k hlt).2
        obtain ⟨c0, c1, c2, c3, c4⟩ := hb.ext x
        have hcall := HF.out l[k] x (List.getElem_mem hlt)
        have q1 : (0 : Int) ≤ (k : Int) := by omega
        have q2 : (k : Int) < (l.length : Int) := by omega
        obtain ⟨f, hf⟩ : ∃ f, f = l[k] := ⟨_, rfl⟩
        rw [← hf] at c0 c1 c2 c3 c4 hcall
        have HK := Lib.hid hf
        have HC := Lib.hid hcall
        clear hf hb hcall
        go_wp2_with fail
        rw [show ∀ (a : Array Value) (w : World), (callFunc F a).run Tryz.prog w = .ok (.enter F a) w from hE, Oper.upon_enter]
        refine HC.out.mono ?_
        rintro e w' ⟨rfl, y, rfl⟩
        clear c0 c1 c2 c3 c4
        cases hp : (f.mark.toList == m.toList)
        · have HP := Lib.hid (show (l[k].mark.toList == m.toList) = false by rw [← HK.out]; exact hp)
          clear hp
          go_wp2
          go_roundw
          case rel => exact ⟨k + 1, by omega, by go_num, ⟨_, ext_ext _ _ _⟩, fun j h1 h2 => by
            rcases Nat.lt_or_ge j k with h | h
            · exact HNO.out j h h2
            · obtain rfl : j = k := by omega
              exact HP.out⟩
          case measure => simp [intOf]; omega
        · have he : findI l m = k := findI_some hlt (by rw [← HK.out]; exact hp) (fun j hj => HNO.out j hj (by omega))
          have HE := Lib.hid he
          clear he hp
          go_wp2
          go_ret
          rw [HE.out]
          exact Ret.of (by (repeat (first | exact grow_refl _ | refine grow_ext _ ?_ | refine grow_alloc _ ?_ | refine grow_drew ?_)))
      · have he : findI l m = -1 := findI_none fun j hj => HNO.out j (by omega) hj
        have HE := Lib.hid he
        clear he
        go_wp2
        go_ret
        rw [HE.out]
        exact Ret.of (by (repeat (first | exact grow_refl _ | refine grow_ext _ ?_ | refine grow_alloc _ ?_ | refine grow_drew ?_)))

end Go.Proofs.YtmoechhfjmemaaaGreat
