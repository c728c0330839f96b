/- Two copies in one drawn region: `append([]T{}, s...)` twice, put together into a struct: what stands while it runs. ref.Copy of a solid. -/
import Derived.Test.YtafkibnkpcmmgaaDApp
import Derived.Test.YtafkibnkpcmmgaaSolK
namespace Go.Proofs.Ytafkibnkpcmmgaa
open Go Go.RowKit
set_option maxRecDepth 20000

/-- An append to a row of one's own, from whatever source; it tells where the row lies. -/
theorem app_any2 {P : Program} {ops : Array Oper} {rest : List Oper} {o : Oper} {a : Act} {Q : Exit → Act → World → Prop} (hgd : o.guard = none) (s x : Operand) (t : TypeId)
    (ho : o.op = .call { callee := .builtin .append, args := #[s, x], argTypes := #[t, t] })
    (e : TypeId) (z : Value) (size bytes : Nat) (ht : P.underlying t = some (.slice e)) (hi : (P.info? e).map (fun i => (i.zero, i.size, i.bytes)) = some (some z, size, bytes)) (hzs : z.cells.size = size) (hsz : 0 < size)
    (base : Nat) (v : Value) (n : Nat) (xs : List Value) (w : World) (hs : a.eval s = v) (hown : w.ownsRow base e size v n xs)
    (ad : Option Addr) (m c : Nat) (news : List Value) (hx : a.eval x = .slice ad m c) (hl : news.length = m * size) (hnil : ad = none → m = 0) (hnews : ∀ a', ad = some a' → ∀ j u, news[j]? = some u → w.cell? (a'.add j) = some u) (h1 : ∀ u ∈ news, u.oneCell' = true)
    (hroom : (n + m) * bytes ≤ 140737488355328) (hby : 0 < bytes) (hB : base ≤ w.heap.size)
    (h : ∀ v' w', w'.ownsRow base e size v' (n + m) (xs ++ news) → w.grownBy w' v.ownBlock → (v'.ownBlock = v.ownBlock ∨ v'.ownBlock = some w.heap.size) → wpList P ops Q rest (a.put o.dst v') w') : wpList P ops Q (o :: rest) a w := by
  obtain ⟨i0, hi, hz0, hz1, hz2⟩ := info_parts hi
  cases ad with
  | some ad =>
    have h63 : n + m ≤ maxLen := by
      unfold maxLen
      have := Nat.le_mul_of_pos_right (n + m) hby
      omega
    exact wpList_append_own_at w hgd s x t ho base e i0 z size bytes ht hi hz0 hz1 hz2 hzs hsz v n xs hs hown ad m c news hx hl (hnews ad rfl) h1 h63 hroom hB fun v' w' h1 h2 _ h4 => h v' w' h1 h2 h4
  | none =>
    obtain rfl := hnil rfl
    have hn0 : news = [] := List.eq_nil_of_length_eq_zero (by omega)
    subst hn0
    refine Lib.wpList_append_run w hgd s x t t ho v _ hs hx v w (run_append_none w base t o.type e i0 size c ht hi v n xs hown) ?_
    exact h v w (by simpa using hown) ⟨rfl, rfl, rfl, Nat.le_refl _, fun _ _ _ => rfl⟩ (.inl rfl)

/-- A copy: the operations that make an empty slice, and append to it; what it holds then. -/
structure Cq where
  kB : Nat
  kA : Nat
  n : Nat
  xs : List Value
def Cq.cur (r : Cq) (L : Array Bool) (vs : List Value) : Value := if L.getD r.kA true = true then vs.getD r.kA undef else if L.getD r.kB true = true then vs.getD r.kB undef else .slice none 0 0
structure CqAt (T : TypeId) (sz base : Nat) (r : Cq) (L : Array Bool) (vs : List Value) (W : World) : Prop where
  ord : L.getD r.kA true = true → L.getD r.kB true = true
  row0 : L.getD r.kA true = false → W.ownsRow base T sz (r.cur L vs) 0 []
  row1 : L.getD r.kA true = true → W.ownsRow base T sz (r.cur L vs) r.n r.xs
section
variable {T TB : TypeId} {sz base G kE kS : Nat} {W1 W W' : World} {r r' : Cq} {L L' : Array Bool} {vs vs' : List Value} {c0 : Array Value}
theorem CqAt.row (h : CqAt T sz base r L vs W) : ∃ n xs, W.ownsRow base T sz (r.cur L vs) n xs := by
  cases e : L.getD r.kA true
  · exact ⟨_, _, h.row0 e⟩
  · exact ⟨_, _, h.row1 e⟩
theorem cq_same (hA : L.getD r.kA true = L'.getD r.kA true ∧ vs.getD r.kA undef = vs'.getD r.kA undef) (hB : L.getD r.kB true = L'.getD r.kB true ∧ vs.getD r.kB undef = vs'.getD r.kB undef) : r.cur L' vs' = r.cur L vs := by
  unfold Cq.cur
  rw [hA.1, hA.2, hB.1, hB.2]
theorem CqAt.move (h : CqAt T sz base r L vs W) (hA : L.getD r.kA true = L'.getD r.kA true ∧ vs.getD r.kA undef = vs'.getD r.kA undef) (hB : L.getD r.kB true = L'.getD r.kB true ∧ vs.getD r.kB undef = vs'.getD r.kB undef)
    (hrow : ∀ n xs, W.ownsRow base T sz (r.cur L vs) n xs → W'.ownsRow base T sz (r.cur L vs) n xs) : CqAt T sz base r L' vs' W' := by
  refine ⟨fun e => ?_, fun e => ?_, fun e => ?_⟩
  · rw [← hB.1]; exact h.ord (by rwa [hA.1])
  · rw [cq_same hA hB]; exact hrow _ _ (h.row0 (by rwa [hA.1]))
  · rw [cq_same hA hB]; exact hrow _ _ (h.row1 (by rwa [hA.1]))
/-- What stands: the two copies apart from one another, the struct that is put together, and the block that it goes to. -/
structure CpJ (T TB : TypeId) (sz : Nat) (W1 : World) (G : Nat) (c0 : Array Value) (r r' : Cq) (kE kS : Nat) (L : Array Bool) (vs : List Value) (W : World) : Prop where
  r1 : CqAt T sz W1.heap.size r L vs W
  r2 : CqAt T sz W1.heap.size r' L vs W
  sep : ∀ b, (r.cur L vs).ownBlock = some b → (r'.cur L vs).ownBlock ≠ some b
  bE : L.getD kE true = true → L.getD r.kA true = true ∧ L.getD r'.kA true = true ∧ vs.getD kE undef = .agg #[vs.getD r.kA undef, vs.getD r'.kA undef]
  oS : L.getD kS true = true → L.getD kE true = true
  blk0 : L.getD kS true = false → Blk W G c0 TB
  blk1 : L.getD kS true = true → Blk W G #[vs.getD r.kA undef, vs.getD r'.kA undef] TB
  os : W.os = W1.os
  tape : W.tape = W1.tape
  output : W.output = W1.output
  size : W1.heap.size ≤ W.heap.size
  frame : ∀ k, k < W1.heap.size → k ≠ G → W.heap[k]? = W1.heap[k]?
  ltG : G < W1.heap.size
def Cq.ks (r : Cq) : List Nat := [r.kB, r.kA]
theorem CpJ.same (h : CpJ T TB sz W1 G c0 r r' kE kS L vs W) (hk : ∀ k ∈ r.ks ++ r'.ks ++ [kE, kS], L.getD k true = L'.getD k true ∧ vs.getD k undef = vs'.getD k undef) : CpJ T TB sz W1 G c0 r r' kE kS L' vs' W := by
  have b1 := hk r.kB (by simp [Cq.ks])
  have a1 := hk r.kA (by simp [Cq.ks])
  have b2 := hk r'.kB (by simp [Cq.ks])
  have a2 := hk r'.kA (by simp [Cq.ks])
  have e1 := hk kE (by simp)
  have s1 := hk kS (by simp)
  refine ⟨h.r1.move a1 b1 (fun _ _ x => x), h.r2.move a2 b2 (fun _ _ x => x), by rw [cq_same a1 b1, cq_same a2 b2]; exact h.sep, ?_, ?_, ?_, ?_, h.os, h.tape, h.output, h.size, h.frame, h.ltG⟩
  · rw [← e1.1, ← e1.2, ← a1.1, ← a1.2, ← a2.1, ← a2.2]; exact h.bE
  · rw [← s1.1, ← e1.1]; exact h.oS
  · rw [← s1.1]; exact h.blk0
  · rw [← s1.1, ← a1.2, ← a2.2]; exact h.blk1
theorem CpJ.grows (h : CpJ T TB sz W1 G c0 r r' kE kS L vs W) (hb : Below W.heap.size W W') : CpJ T TB sz W1 G c0 r r' kE kS L vs W' := by
  have hg : W.grownBy W' none := ⟨hb.os, hb.tape, hb.output, hb.size, fun k hk _ => hb.block k hk⟩
  refine ⟨h.r1.move ⟨rfl, rfl⟩ ⟨rfl, rfl⟩ (fun _ _ x => x.kept hg (by cases (r.cur L vs).ownBlock <;> simp)), h.r2.move ⟨rfl, rfl⟩ ⟨rfl, rfl⟩ (fun _ _ x => x.kept hg (by cases (r'.cur L vs).ownBlock <;> simp)), h.sep, h.bE, h.oS, fun e => (h.blk0 e).below hb, fun e => (h.blk1 e).below hb, hb.os.trans h.os, hb.tape.trans h.tape, hb.output.trans h.output, Nat.le_trans h.size hb.size, fun k h1 h2 => ?_, h.ltG⟩
  rw [hb.block k (Nat.lt_of_lt_of_le h1 h.size)]
  exact h.frame k h1 h2
theorem CpJ.part : PartG (r.ks ++ r'.ks ++ [kE, kS]) (CpJ T TB sz W1 G c0 r r' kE kS) := ⟨fun _ _ _ _ _ hk h => h.same hk, fun _ _ _ x h => h.grows (below_ext _ x)⟩

/-- What the two copies' steps ask of the numbers. -/
def cpOk (r r' : Cq) (kE kS : Nat) : Prop := [r.kB, r.kA, r'.kB, r'.kA, kE, kS].Nodup
theorem CqAt.stepB (h : CqAt T sz base r L vs W) (hne : r.kB ≠ r.kA) (hi : r.kB < vs.length) (hun : L.getD r.kB true = false) (hb : base ≤ W.heap.size) {u : Value} (hu : u = .slice (some ⟨W.heap.size, 0, none⟩) 0 0) {cs : Array Value} (hcs : cs = #[]) :
    CqAt T sz base r (L.setIfInBounds r.kB true) (vs.set r.kB u) (W.alloc (.cells cs T)) ∧ r.cur (L.setIfInBounds r.kB true) (vs.set r.kB u) = u := by
  subst hcs
  have hA : L.getD r.kA true = false := by
    cases e : L.getD r.kA true
    · rfl
    · have := h.ord e
      rw [hun] at this; cases this
  have hc : r.cur (L.setIfInBounds r.kB true) (vs.set r.kB u) = u := by
    unfold Cq.cur
    rw [getD_other hne, hA, if_neg (by decide), if_pos getD_self, getD_set_self' hi]
  refine ⟨⟨fun _ => getD_self, fun _ => ?_, fun e => ?_⟩, hc⟩
  · rw [hc, hu]
    exact World.ownsRow_made W #[] 0 hb (by decide) (by simp)
  · rw [getD_other hne, hA] at e; cases e
theorem CqAt.stepA (_ : CqAt T sz base r L vs W) (hne : r.kB ≠ r.kA) (hi : r.kA < vs.length) (hB : L.getD r.kB true = true) {u : Value} (hown : W'.ownsRow base T sz u (0 + r.n) ([] ++ r.xs)) :
    CqAt T sz base r (L.setIfInBounds r.kA true) (vs.set r.kA u) W' ∧ r.cur (L.setIfInBounds r.kA true) (vs.set r.kA u) = u := by
  have hc : r.cur (L.setIfInBounds r.kA true) (vs.set r.kA u) = u := by
    unfold Cq.cur
    rw [if_pos getD_self, getD_set_self' hi]
  refine ⟨⟨fun _ => by rw [getD_other hne.symm]; exact hB, fun e => ?_, fun _ => ?_⟩, hc⟩
  · rw [getD_self] at e; cases e
  · rw [hc]; rw [Nat.zero_add, List.nil_append] at hown; exact hown
theorem ne_of_nodup6 {a b c d e f : Nat} (h : [a, b, c, d, e, f].Nodup) : (a ≠ b ∧ a ≠ c ∧ a ≠ d ∧ a ≠ e ∧ a ≠ f) ∧ (b ≠ c ∧ b ≠ d ∧ b ≠ e ∧ b ≠ f) ∧ (c ≠ d ∧ c ≠ e ∧ c ≠ f) ∧ (d ≠ e ∧ d ≠ f) ∧ e ≠ f := by
  simp only [List.nodup_cons, List.mem_cons, List.not_mem_nil, or_false, not_or] at h
  obtain ⟨h1, h2, h3, h4, h5, -⟩ := h
  exact ⟨h1, h2, h3, h4, h5⟩
theorem set_ne {i k : Nat} (h : i ≠ k) (u : Value) : L.getD k true = (L.setIfInBounds i true).getD k true ∧ vs.getD k undef = (vs.set i u).getD k undef := ⟨(getD_other h).symm, (getD_set_other h u).symm⟩
/-- A step of the first copy that makes or moves its row: all else lies as it lay. -/
theorem CpJ.step1 (h : CpJ T TB sz W1 G c0 r r' kE kS L vs W) (ok : cpOk r r' kE kS) {i : Nat} (hi : i = r.kB ∨ i = r.kA) {u : Value} {row : Option Nat} (hold : row = (r.cur L vs).ownBlock) (hg : W.grownBy W' row)
    (hunE : L.getD r.kA true = false) (hnew : CqAt T sz W1.heap.size r (L.setIfInBounds i true) (vs.set i u) W') (hcur : r.cur (L.setIfInBounds i true) (vs.set i u) = u) (hw : u.ownBlock = row ∨ u.ownBlock = some W.heap.size) : CpJ T TB sz W1 G c0 r r' kE kS (L.setIfInBounds i true) (vs.set i u) W' := by
  obtain ⟨⟨q1, q2, q3, q4, q5⟩, ⟨q6, q7, q8, q9⟩, ⟨q10, q11, q12⟩, ⟨q13, q14⟩, q15⟩ := ne_of_nodup6 ok
  have m1 : i ≠ r'.kB := by rcases hi with rfl | rfl <;> assumption
  have m2 : i ≠ r'.kA := by rcases hi with rfl | rfl <;> assumption
  have m3 : i ≠ kE := by rcases hi with rfl | rfl <;> assumption
  have m4 : i ≠ kS := by rcases hi with rfl | rfl <;> assumption
  have hE : L.getD kE true = false := by
    cases e : L.getD kE true
    · rfl
    · have := (h.bE e).1
      rw [hunE] at this; cases this
  have hS : L.getD kS true = false := by
    cases e : L.getD kS true
    · rfl
    · have := h.oS e
      rw [hE] at this; cases this
  obtain ⟨n', xs', hrow'⟩ := h.r2.row
  have hsep : (r'.cur L vs).ownBlock = none ∨ (r'.cur L vs).ownBlock ≠ row := by
    cases e : (r'.cur L vs).ownBlock with
    | none => exact .inl rfl
    | some b => exact .inr fun q => h.sep b (by rw [← hold]; exact q.symm) e
  refine ⟨hnew, h.r2.move (set_ne m2 u) (set_ne m1 u) (fun _ _ x => x.kept hg hsep), ?_, fun e => ?_, fun e => ?_, fun e => ?_, fun e => ?_, hg.os.trans h.os, hg.tape.trans h.tape, hg.output.trans h.output, Nat.le_trans h.size hg.size, fun k h1 h2 => ?_, h.ltG⟩
  · rw [hcur, cq_same (set_ne m2 u) (set_ne m1 u)]
    intro b hb hb'
    rcases hw with hw | hw
    · rw [hw, hold] at hb
      exact h.sep b hb hb'
    · rw [hw] at hb
      have := (hrow'.lt b hb').2
      injection hb with hb
      omega
  · rw [getD_other m3, hE] at e; cases e
  · rw [getD_other m4, hS] at e; cases e
  · obtain ⟨n1, x1, hr1⟩ := h.r1.row
    exact (h.blk0 hS).grown hg (fun e => by have := (hr1.lt G (by rw [← hold]; exact e.symm)).1; have := h.ltG; omega)
  · rw [getD_other m4, hS] at e; cases e
  · obtain ⟨n1, x1, hr1⟩ := h.r1.row
    rw [hg.block k (Nat.lt_of_lt_of_le h1 h.size) (fun e => by have := (hr1.lt k (by rw [← hold]; exact e.symm)).1; omega)]
    exact h.frame k h1 h2
/-- The same of the second copy. -/
theorem CpJ.step2 (h : CpJ T TB sz W1 G c0 r r' kE kS L vs W) (ok : cpOk r r' kE kS) {i : Nat} (hi : i = r'.kB ∨ i = r'.kA) {u : Value} {row : Option Nat} (hold : row = (r'.cur L vs).ownBlock) (hg : W.grownBy W' row)
    (hunE : L.getD r'.kA true = false) (hnew : CqAt T sz W1.heap.size r' (L.setIfInBounds i true) (vs.set i u) W') (hcur : r'.cur (L.setIfInBounds i true) (vs.set i u) = u) (hw : u.ownBlock = row ∨ u.ownBlock = some W.heap.size) : CpJ T TB sz W1 G c0 r r' kE kS (L.setIfInBounds i true) (vs.set i u) W' := by
  obtain ⟨⟨q1, q2, q3, q4, q5⟩, ⟨q6, q7, q8, q9⟩, ⟨q10, q11, q12⟩, ⟨q13, q14⟩, q15⟩ := ne_of_nodup6 ok
  have m1 : i ≠ r.kB := by rcases hi with rfl | rfl <;> (apply Ne.symm; assumption)
  have m2 : i ≠ r.kA := by rcases hi with rfl | rfl <;> (apply Ne.symm; assumption)
  have m3 : i ≠ kE := by rcases hi with rfl | rfl <;> assumption
  have m4 : i ≠ kS := by rcases hi with rfl | rfl <;> assumption
  have hE : L.getD kE true = false := by
    cases e : L.getD kE true
    · rfl
    · have := (h.bE e).2.1
      rw [hunE] at this; cases this
  have hS : L.getD kS true = false := by
    cases e : L.getD kS true
    · rfl
    · have := h.oS e
      rw [hE] at this; cases this
  obtain ⟨n', xs', hrow'⟩ := h.r1.row
  have hsep : (r.cur L vs).ownBlock = none ∨ (r.cur L vs).ownBlock ≠ row := by
    cases e : (r.cur L vs).ownBlock with
    | none => exact .inl rfl
    | some b => exact .inr fun q => h.sep b e (by rw [← hold]; exact q.symm)
  refine ⟨h.r1.move (set_ne m2 u) (set_ne m1 u) (fun _ _ x => x.kept hg hsep), hnew, ?_, fun e => ?_, fun e => ?_, fun e => ?_, fun e => ?_, hg.os.trans h.os, hg.tape.trans h.tape, hg.output.trans h.output, Nat.le_trans h.size hg.size, fun k h1 h2 => ?_, h.ltG⟩
  · rw [hcur, cq_same (set_ne m2 u) (set_ne m1 u)]
    intro b hb hb'
    rcases hw with hw | hw
    · rw [hw, hold] at hb'
      exact h.sep b hb hb'
    · rw [hw] at hb'
      have := (hrow'.lt b hb).2
      injection hb' with hb'
      omega
  · rw [getD_other m3, hE] at e; cases e
  · rw [getD_other m4, hS] at e; cases e
  · obtain ⟨n1, x1, hr1⟩ := h.r2.row
    exact (h.blk0 hS).grown hg (fun e => by have := (hr1.lt G (by rw [← hold]; exact e.symm)).1; have := h.ltG; omega)
  · rw [getD_other m4, hS] at e; cases e
  · obtain ⟨n1, x1, hr1⟩ := h.r2.row
    rw [hg.block k (Nat.lt_of_lt_of_le h1 h.size) (fun e => by have := (hr1.lt k (by rw [← hold]; exact e.symm)).1; omega)]
    exact h.frame k h1 h2
/-- The struct is put together. -/
theorem CpJ.stepE (h : CpJ T TB sz W1 G c0 r r' kE kS L vs W) (ok : cpOk r r' kE kS) (hi : kE < vs.length) (hun : L.getD kE true = false) (hA : L.getD r.kA true = true) (hA' : L.getD r'.kA true = true) {u : Value} (hu : u = .agg #[vs.getD r.kA undef, vs.getD r'.kA undef]) : CpJ T TB sz W1 G c0 r r' kE kS (L.setIfInBounds kE true) (vs.set kE u) W := by
  obtain ⟨⟨q1, q2, q3, q4, q5⟩, ⟨q6, q7, q8, q9⟩, ⟨q10, q11, q12⟩, ⟨q13, q14⟩, q15⟩ := ne_of_nodup6 ok
  have hS : L.getD kS true = false := by
    cases e : L.getD kS true
    · rfl
    · have := h.oS e
      rw [hun] at this; cases this
  refine ⟨h.r1.move (set_ne q8.symm u) (set_ne q4.symm u) (fun _ _ x => x), h.r2.move (set_ne q13.symm u) (set_ne q11.symm u) (fun _ _ x => x), by rw [cq_same (set_ne q8.symm u) (set_ne q4.symm u), cq_same (set_ne q13.symm u) (set_ne q11.symm u)]; exact h.sep, fun _ => ⟨by rw [getD_other q8.symm]; exact hA, by rw [getD_other q13.symm]; exact hA', ?_⟩, fun _ => getD_self, fun e => ?_, fun e => ?_, h.os, h.tape, h.output, h.size, h.frame, h.ltG⟩
  · rw [getD_set_self' hi, getD_set_other q8.symm, getD_set_other q13.symm]; exact hu
  · rw [getD_other q15] at e; exact h.blk0 e
  · rw [getD_other q15, hS] at e; cases e
/-- It is stored. -/
theorem CpJ.stepS (h : CpJ T TB sz W1 G c0 r r' kE kS L vs W) (ok : cpOk r r' kE kS) (hE : L.getD kE true = true) (hoth : ∀ k, k ≠ G → W'.heap[k]? = W.heap[k]?) (hs : W'.heap.size = W.heap.size) (ho : W'.os = W.os) (ht : W'.tape = W.tape) (hp : W'.output = W.output)
    (hb : Blk W' G #[vs.getD r.kA undef, vs.getD r'.kA undef] TB) : CpJ T TB sz W1 G c0 r r' kE kS (L.setIfInBounds kS true) vs W' := by
  obtain ⟨⟨q1, q2, q3, q4, q5⟩, ⟨q6, q7, q8, q9⟩, ⟨q10, q11, q12⟩, ⟨q13, q14⟩, q15⟩ := ne_of_nodup6 ok
  have s0 : ∀ {k : Nat}, k ≠ kS → L.getD k true = (L.setIfInBounds kS true).getD k true ∧ vs.getD k undef = vs.getD k undef := fun hk => ⟨(getD_other hk.symm).symm, rfl⟩
  have hrow : ∀ (v : Value) n xs, W.ownsRow W1.heap.size T sz v n xs → W'.ownsRow W1.heap.size T sz v n xs := fun v n xs x => by
    have hl := x.lt
    refine ⟨x.1, ?_⟩
    rcases x.2 with h1 | ⟨g, cap, cur, rfl, h2, h3, h4⟩
    · exact .inl h1
    · exact .inr ⟨g, cap, cur, rfl, h2, by rw [hoth g (by have := h.ltG; omega)]; exact h3, h4⟩
  obtain ⟨b1, b2, b3⟩ := h.bE hE
  refine ⟨h.r1.move (s0 q9) (s0 q5) (hrow _), h.r2.move (s0 q14) (s0 q12) (hrow _), by rw [cq_same (s0 q9) (s0 q5), cq_same (s0 q14) (s0 q12)]; exact h.sep, fun _ => ⟨by rw [getD_other q9.symm]; exact b1, by rw [getD_other q14.symm]; exact b2, b3⟩, fun _ => by rw [getD_other q15.symm]; exact hE, fun e => ?_, fun _ => hb, ho.trans h.os, ht.trans h.tape, hp.trans h.output, by rw [hs]; exact h.size, fun k h1 h2 => by rw [hoth k h2]; exact h.frame k h1 h2, h.ltG⟩
  rw [getD_self] at e; cases e
theorem CqAt.un (h : CqAt T sz base r L vs W) (hun : L.getD r.kB true = false) : L.getD r.kA true = false := by
  cases e : L.getD r.kA true
  · rfl
  · have := h.ord e
    rw [hun] at this; cases this
theorem CqAt.emp (_ : CqAt T sz base r L vs W) (hun : L.getD r.kA true = false) (hB : L.getD r.kB true = true) : r.cur L vs = vs.getD r.kB undef := by
  unfold Cq.cur; rw [hun, if_neg (by decide), if_pos hB]
theorem CqAt.full (h : CqAt T sz base r L vs W) (hA : L.getD r.kA true = true) : W.ownsRow base T sz (vs.getD r.kA undef) r.n r.xs := by
  have := h.row1 hA
  unfold Cq.cur at this
  rw [if_pos hA] at this
  exact this
theorem CpJ.emp1 (h : CpJ T TB sz W1 G c0 r r' kE kS L vs W) (hun : L.getD r.kA true = false) (hB : L.getD r.kB true = true) : W.ownsRow W1.heap.size T sz (vs.getD r.kB undef) 0 [] := by
  have := h.r1.row0 hun
  rw [h.r1.emp hun hB] at this
  exact this
theorem CpJ.emp2 (h : CpJ T TB sz W1 G c0 r r' kE kS L vs W) (hun : L.getD r'.kA true = false) (hB : L.getD r'.kB true = true) : W.ownsRow W1.heap.size T sz (vs.getD r'.kB undef) 0 [] := by
  have := h.r2.row0 hun
  rw [h.r2.emp hun hB] at this
  exact this
theorem CpJ.stepB1 (h : CpJ T TB sz W1 G c0 r r' kE kS L vs W) (ok : cpOk r r' kE kS) (hi : r.kB < vs.length) (hun : L.getD r.kB true = false) {u : Value} (hu : u = .slice (some ⟨W.heap.size, 0, none⟩) 0 0) {cs : Array Value} (hcs : cs = #[]) : CpJ T TB sz W1 G c0 r r' kE kS (L.setIfInBounds r.kB true) (vs.set r.kB u) (W.alloc (.cells cs T)) := by
  obtain ⟨h1, h2⟩ := h.r1.stepB (ne_of_nodup6 ok).1.1 hi hun h.size hu hcs
  exact h.step1 ok (.inl rfl) rfl (World.grownBy_alloc W _ _) (h.r1.un hun) h1 h2 (.inr (by rw [hu]; rfl))
theorem CpJ.stepB2 (h : CpJ T TB sz W1 G c0 r r' kE kS L vs W) (ok : cpOk r r' kE kS) (hi : r'.kB < vs.length) (hun : L.getD r'.kB true = false) {u : Value} (hu : u = .slice (some ⟨W.heap.size, 0, none⟩) 0 0) {cs : Array Value} (hcs : cs = #[]) : CpJ T TB sz W1 G c0 r r' kE kS (L.setIfInBounds r'.kB true) (vs.set r'.kB u) (W.alloc (.cells cs T)) := by
  obtain ⟨h1, h2⟩ := h.r2.stepB (ne_of_nodup6 ok).2.2.1.1 hi hun h.size hu hcs
  exact h.step2 ok (.inl rfl) rfl (World.grownBy_alloc W _ _) (h.r2.un hun) h1 h2 (.inr (by rw [hu]; rfl))
theorem CpJ.stepA1 (h : CpJ T TB sz W1 G c0 r r' kE kS L vs W) (ok : cpOk r r' kE kS) (hi : r.kA < vs.length) (hun : L.getD r.kA true = false) (hB : L.getD r.kB true = true) {u : Value}
    (hown : W'.ownsRow W1.heap.size T sz u (0 + r.n) ([] ++ r.xs)) (hg : W.grownBy W' (vs.getD r.kB undef).ownBlock) (hw : u.ownBlock = (vs.getD r.kB undef).ownBlock ∨ u.ownBlock = some W.heap.size) : CpJ T TB sz W1 G c0 r r' kE kS (L.setIfInBounds r.kA true) (vs.set r.kA u) W' := by
  obtain ⟨h1, h2⟩ := h.r1.stepA (ne_of_nodup6 ok).1.1 hi hB hown
  exact h.step1 ok (.inr rfl) (by rw [h.r1.emp hun hB]) hg hun h1 h2 hw
theorem CpJ.stepA2 (h : CpJ T TB sz W1 G c0 r r' kE kS L vs W) (ok : cpOk r r' kE kS) (hi : r'.kA < vs.length) (hun : L.getD r'.kA true = false) (hB : L.getD r'.kB true = true) {u : Value}
    (hown : W'.ownsRow W1.heap.size T sz u (0 + r'.n) ([] ++ r'.xs)) (hg : W.grownBy W' (vs.getD r'.kB undef).ownBlock) (hw : u.ownBlock = (vs.getD r'.kB undef).ownBlock ∨ u.ownBlock = some W.heap.size) : CpJ T TB sz W1 G c0 r r' kE kS (L.setIfInBounds r'.kA true) (vs.set r'.kA u) W' := by
  obtain ⟨h1, h2⟩ := h.r2.stepA (ne_of_nodup6 ok).2.2.1.1 hi hB hown
  exact h.step2 ok (.inr rfl) (by rw [h.r2.emp hun hB]) hg hun h1 h2 hw
/-- A cell of an elder world. -/
theorem CpJ.old (h : CpJ T TB sz W1 G c0 r r' kE kS L vs W) {w : World} (hw : w.heap.size ≤ G) (hb : Below w.heap.size w W1) {ad : Addr} {q : Value} (hc : w.cell? ad = some q) : W.cell? ad = some q := by
  have hlt := World.block_lt_of_cell? w ad hc
  rw [World.cell?_of_block (w := w) (by rw [h.frame ad.block (Nat.lt_of_lt_of_le hlt hb.size) (by omega)]; exact hb.block _ hlt)]
  exact hc
theorem rep_false' {n k : Nat} (h : k < n) : (Array.replicate n false).getD k true = false := by simp [Array.getD, h]
theorem CpJ.init (hL : ∀ k ∈ r.ks ++ r'.ks ++ [kE, kS], L.getD k true = false) (hb : Blk W1 G c0 TB) : CpJ T TB sz W1 G c0 r r' kE kS L vs W1.drew := by
  have b1 := hL r.kB (by simp [Cq.ks])
  have a1 := hL r.kA (by simp [Cq.ks])
  have b2 := hL r'.kB (by simp [Cq.ks])
  have a2 := hL r'.kA (by simp [Cq.ks])
  have e1 := hL kE (by simp)
  have s1 := hL kS (by simp)
  have c1 : r.cur L vs = .slice none 0 0 := by unfold Cq.cur; rw [a1, b1]; rfl
  have c2 : r'.cur L vs = .slice none 0 0 := by unfold Cq.cur; rw [a2, b2]; rfl
  refine ⟨⟨fun e => ?_, fun _ => ?_, fun e => ?_⟩, ⟨fun e => ?_, fun _ => ?_, fun e => ?_⟩, ?_, fun e => ?_, fun e => ?_, fun _ => hb, fun e => ?_, rfl, rfl, rfl, Nat.le_refl _, fun _ _ _ => rfl, hb.lt⟩
  · rw [a1] at e; cases e
  · rw [c1]; exact World.ownsRow_nil _ _ _ _
  · rw [a1] at e; cases e
  · rw [a2] at e; cases e
  · rw [c2]; exact World.ownsRow_nil _ _ _ _
  · rw [a2] at e; cases e
  · rw [c1]; intro b hb; simp [Value.ownBlock] at hb
  · rw [e1] at e; cases e
  · rw [s1] at e; cases e
  · rw [s1] at e; cases e
end
end Go.Proofs.Ytafkibnkpcmmgaa
