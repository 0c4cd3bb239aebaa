import Derived.Test.YtifakbipdmceiaaJLawA1
section
set_option linter.unusedVariables false
namespace Go.Proofs.Ytifakbipdmceiaa
open Go.RowKit

section
variable {α : Type} {E : El α} {B N : Nat} {w : World}
theorem CellsOf.append {xs ys : List α} {cs ds : List Value} (h : CellsOf E B N w xs cs) (k : CellsOf E B N w ys ds) : CellsOf E B N w (xs ++ ys) (cs ++ ds) := by
  refine ⟨by rw [List.length_append, List.length_append, h.1, k.1, Nat.add_mul], fun j x hj => ?_⟩
  rcases Nat.lt_or_ge j xs.length with hlt | hge
  · rw [List.getElem?_append_left hlt] at hj
    have hle : j * E.sz + E.sz ≤ cs.length := by rw [h.1, ← Nat.succ_mul]; exact Nat.mul_le_mul_right _ hlt
    rw [List.drop_append_of_le_length (by omega), List.take_append_of_le_length (by rw [List.length_drop]; omega)]
    exact h.2 j x hj
  · rw [List.getElem?_append_right hge] at hj
    have h2 := k.2 _ x hj
    have e1 : j * E.sz = cs.length + (j - xs.length) * E.sz := by rw [h.1, ← Nat.add_mul]; congr 1; omega
    rw [e1, List.drop_append, List.drop_eq_nil_of_le (by omega)]
    simpa using h2
theorem CellsOf.one {xs : List α} {cs : List Value} (h : CellsOf E B N w xs cs) : ∀ u ∈ cs, u.oneCell' = true := by
  intro u hu
  obtain ⟨i, hi, rfl⟩ := List.getElem_of_mem hu
  have hp := E.pos
  have hl := h.1
  have hj : i / E.sz < xs.length := by rw [Nat.div_lt_iff_lt_mul hp]; omega
  have h2 := h.2 (i / E.sz) xs[i / E.sz] (by simp [hj])
  refine E.one _ _ _ _ _ h2 _ ?_
  rw [List.mem_iff_getElem?]
  refine ⟨i % E.sz, ?_⟩
  have hm := Nat.mod_lt i hp
  rw [List.getElem?_take, if_pos hm, List.getElem?_drop]
  have e1 : i / E.sz * E.sz + i % E.sz = i := by rw [Nat.mul_comm]; exact Nat.div_add_mod i E.sz
  rw [e1]; simp [hi]
end
section
variable {P : Program} {α : Type}
/-- append of a whole row of the call's own. -/
theorem wp_appendN (w : World) {o : Oper} {a : Act} {K : Act → World → Prop} {Q : Exit → Act → World → Prop} (E : El α) (s x : Operand) (t e : TypeId)
    (ho : o.op = .call { callee := .builtin .append, args := #[s, x], argTypes := #[t, t] }) {z : Value}
    (ht : P.underlying t = some (.slice e)) (hi : (P.info? e).map (fun i => (i.zero, i.size, i.bytes)) = some (some z, E.sz, E.by_)) (hzs : z.cells.size = E.sz)
    {B N B' N' : Nat} {v v' : Value} {xs ys : List α} (B0 : Nat) (hs : a.eval s = v) (hx : a.eval x = v')
    (HO : Own E e B N w v xs) (HY : Own E e B' N' w v' ys) (hd : N ≤ B' ∨ N' ≤ B) (h0 : B0 ≤ B) (h0' : B0 ≤ B') (hB0 : B0 ≤ w.heap.size) (hby : 0 < E.by_) (hne : 0 < ys.length) (hl : (xs.length + ys.length) * E.by_ ≤ 140737488355328)
    (h : ∀ g c w', Own E e B0 w'.heap.size w' (.slice (some ⟨g, 0, none⟩) (xs.length + ys.length) c) (xs ++ ys) → w.grownBy w' v.ownBlock → (v.ownBlock = some g ∨ g = w.heap.size) → K (a.put o.dst (.slice (some ⟨g, 0, none⟩) (xs.length + ys.length) c)) w') :
    o.wp P a w K Q := by
  have hlt := fun g hg => HO.lt (g := g) hg
  obtain ⟨h0_, h1, cs, S, h2, h3, h4, h5⟩ := HO
  obtain ⟨y0, y1, ds, T, y2, y3, y4, y5⟩ := HY
  obtain ⟨i, hi0, hz0, hz1, hz2⟩ := info_parts hi
  have hc := y5 w fun _ _ => rfl
  obtain ⟨H, cap, rfl⟩ : ∃ H cap, v' = .slice (some ⟨H, 0, none⟩) ys.length cap := by
    rcases y2.2 with ⟨rfl, h6⟩ | ⟨g, cap, cur, rfl, h6⟩
    · omega
    · exact ⟨g, cap, rfl⟩
  refine wp_append_lies w s x t ho B0 e i z E.sz E.by_ ht hi0 hz0 hz1 hz2 hzs E.pos v xs.length cs hs (ownsRow_low h2 (by omega)) ⟨H, 0, none⟩ ys.length cap ds hx hc.1
    (fun j u hu => y2.cells (g := H) rfl j u hu) hc.one hne (by unfold maxLen; have := Nat.le_mul_of_pos_right (xs.length + ys.length) hby; omega) hl hB0 w.heap.size rfl ?_
  intro g c w' hown hg hat hgl
  refine h g c w' ⟨Nat.le_refl _, by rw [List.length_append]; exact hl, cs ++ ds, fun b => S b ∨ T b, by rw [List.length_append]; exact hown, ?_, ?_, ?_⟩ hg hat
  · intro g' hg'
    obtain rfl : g = g' := by simpa [Value.ownBlock] using hg'
    refine ⟨hgl, ?_⟩
    rcases hat with hat | rfl
    · have := h3 g hat
      have := hlt g hat
      rintro (h6 | h6)
      · exact (h3 g hat).2 h6
      · have := y4 _ h6; omega
    · rintro (h6 | h6)
      · have := (h4 _ h6).2; omega
      · have := (y4 _ h6).2; omega
  · have := hg.size
    rintro b (hb | hb)
    · have := h4 b hb; omega
    · have := y4 b hb; omega
  · intro w'' hw''
    have key : ∀ b, S b ∨ T b → w'.heap[b]? = w.heap[b]? := by
      intro b hb
      refine hg.block b (by rcases hb with hb | hb; have := (h4 b hb).2; omega; have := (y4 b hb).2; omega) fun e => ?_
      have := hlt b e.symm
      rcases hb with hb | hb
      · exact (h3 b e.symm).2 hb
      · have := y4 b hb; omega
    have hz := hg.size
    exact ((h5 w'' fun b hb => (hw'' b (.inl hb)).trans (key b (.inl hb))).mono h0 (by omega)).append ((y5 w'' fun b hb => (hw'' b (.inr hb)).trans (key b (.inr hb))).mono h0' (by omega))
theorem wpList_appendN (w : World) {ops : Array Oper} {rest : List Oper} {o : Oper} {a : Act} {Q : Exit → Act → World → Prop} (hgd : o.guard = none) (E : El α) (s x : Operand) (t e : TypeId)
    (ho : o.op = .call { callee := .builtin .append, args := #[s, x], argTypes := #[t, t] }) {z : Value}
    (ht : P.underlying t = some (.slice e)) (hi : (P.info? e).map (fun i => (i.zero, i.size, i.bytes)) = some (some z, E.sz, E.by_)) (hzs : z.cells.size = E.sz)
    {B N B' N' : Nat} {v v' : Value} {xs ys : List α} (B0 : Nat) (hs : a.eval s = v) (hx : a.eval x = v')
    (HO : Own E e B N w v xs) (HY : Own E e B' N' w v' ys) (hd : N ≤ B' ∨ N' ≤ B) (h0 : B0 ≤ B) (h0' : B0 ≤ B') (hB0 : B0 ≤ w.heap.size) (hby : 0 < E.by_) (hne : 0 < ys.length) (hl : (xs.length + ys.length) * E.by_ ≤ 140737488355328)
    (h : ∀ g c w', Own E e B0 w'.heap.size w' (.slice (some ⟨g, 0, none⟩) (xs.length + ys.length) c) (xs ++ ys) → w.grownBy w' v.ownBlock → (v.ownBlock = some g ∨ g = w.heap.size) → wpList P ops Q rest (a.put o.dst (.slice (some ⟨g, 0, none⟩) (xs.length + ys.length) c)) w') :
    wpList P ops Q (o :: rest) a w :=
  wpList_plain hgd fun _ hK => wp_appendN w E s x t e ho ht hi hzs B0 hs hx HO HY hd h0 h0' hB0 hby hne hl fun g c w' h2 h3 h4 => hK _ _ (h g c w' h2 h3 h4)
theorem run_append_zero (w : World) (t ty e : TypeId) (i : TypeInfo) (ht : P.underlying t = some (.slice e)) (hi : P.info? e = some i) (base A : Option Addr) (n c d : Nat) (hle : n ≤ c) :
    (Builtin.append_ #[t, t] ty #[.slice base n c, .slice A 0 d]).run P w = .ok (.slice base n c) w := by
  cases base <;> cases A <;> simp [Builtin.append_, run_underlying ht, sizeOf, typeInfo, hi, Builtin.lenOf, Builtin.firstCells, hle, storeCells, loadCells, loadCellsFrom]
/-- append of a row of the call's own, be it empty or not. -/
theorem wp_appendO (w : World) {o : Oper} {a : Act} {K : Act → World → Prop} {Q : Exit → Act → World → Prop} (E : El α) (s x : Operand) (t e : TypeId)
    (ho : o.op = .call { callee := .builtin .append, args := #[s, x], argTypes := #[t, t] }) {z : Value}
    (ht : P.underlying t = some (.slice e)) (hi : (P.info? e).map (fun i => (i.zero, i.size, i.bytes)) = some (some z, E.sz, E.by_)) (hzs : z.cells.size = E.sz)
    {B N B' N' : Nat} {v v' : Value} {xs ys : List α} (B0 : Nat) (hs : a.eval s = v) (hx : a.eval x = v')
    (HO : Own E e B N w v xs) (HY : Own E e B' N' w v' ys) (hd : N ≤ B' ∨ N' ≤ B) (h0 : B0 ≤ B) (h0' : B0 ≤ B') (hB0 : B0 ≤ w.heap.size) (hby : 0 < E.by_) (hl : (xs.length + ys.length) * E.by_ ≤ 140737488355328)
    (h : ∀ v2 w', Own E e B0 w'.heap.size w' v2 (xs ++ ys) → w.grownBy w' v.ownBlock → K (a.put o.dst v2) w') : o.wp P a w K Q := by
  rcases Nat.eq_zero_or_pos ys.length with hz | hp
  · obtain ⟨A, c, rfl, hc, _⟩ := HO.row
    obtain ⟨A', c', rfl, hc', _⟩ := HY.row
    obtain ⟨i, hi0, hz0, hz1, hz2⟩ := info_parts hi
    have hys : ys = [] := List.eq_nil_of_length_eq_zero hz
    subst hys
    have hr := run_append_zero (P := P) w t o.type e i ht hi0 A A' xs.length c c' hc
    unfold Oper.wp execOp
    simp only [ho, resolve, invoke, builtin, Sem.run_bind, Sem.run_pure, Result.andThen_ok, List.map_toArray, List.map_cons, List.map_nil, hs, hx, List.length_nil, hr]
    have h9 := h (.slice A xs.length c) w (by simpa using (HO.low h0).widen HO.1 (Nat.le_refl _)) ⟨rfl, rfl, rfl, Nat.le_refl _, fun _ _ _ => rfl⟩
    exact h9
  · exact wp_appendN w E s x t e ho ht hi hzs B0 hs hx HO HY hd h0 h0' hB0 hby hp hl fun g c w' h2 h3 h4 => h _ w' (by simpa using h2) h3
theorem wpList_appendO (w : World) {ops : Array Oper} {rest : List Oper} {o : Oper} {a : Act} {Q : Exit → Act → World → Prop} (hgd : o.guard = none) (E : El α) (s x : Operand) (t e : TypeId)
    (ho : o.op = .call { callee := .builtin .append, args := #[s, x], argTypes := #[t, t] }) {z : Value}
    (ht : P.underlying t = some (.slice e)) (hi : (P.info? e).map (fun i => (i.zero, i.size, i.bytes)) = some (some z, E.sz, E.by_)) (hzs : z.cells.size = E.sz)
    {B N B' N' : Nat} {v v' : Value} {xs ys : List α} (B0 : Nat) (hs : a.eval s = v) (hx : a.eval x = v')
    (HO : Own E e B N w v xs) (HY : Own E e B' N' w v' ys) (hd : N ≤ B' ∨ N' ≤ B) (h0 : B0 ≤ B) (h0' : B0 ≤ B') (hB0 : B0 ≤ w.heap.size) (hby : 0 < E.by_) (hl : (xs.length + ys.length) * E.by_ ≤ 140737488355328)
    (h : ∀ v2 w', Own E e B0 w'.heap.size w' v2 (xs ++ ys) → w.grownBy w' v.ownBlock → wpList P ops Q rest (a.put o.dst v2) w') :
    wpList P ops Q (o :: rest) a w :=
  wpList_plain hgd fun _ hK => wp_appendO w E s x t e ho ht hi hzs B0 hs hx HO HY hd h0 h0' hB0 hby hl fun v2 w' h2 h3 => hK _ _ (h v2 w' h2 h3)
end
end Go.Proofs.Ytifakbipdmceiaa
end
section
set_option linter.unusedVariables false
namespace Go.Proofs.Ytifakbipdmceiaa
open Go.RowKit

/-- A row of the call's own (its block at or beyond M) whose elements may lie in blocks below N0 too (what came in). -/
def OwnR {α : Type} (E : El α) (e : TypeId) (N0 M N : Nat) (w : World) (v : Value) (xs : List α) : Prop :=
  N0 ≤ M ∧ N ≤ w.heap.size ∧ xs.length * E.by_ ≤ 140737488355328 ∧ ∃ (cs : List Value) (S : Nat → Prop), w.ownsRow M e E.sz v xs.length cs ∧ (∀ g, v.ownBlock = some g → g < N ∧ ¬ S g) ∧ (∀ b, S b → b < N0 ∨ (M ≤ b ∧ b < N)) ∧
    ∀ w' : World, (∀ b, S b → w'.heap[b]? = w.heap[b]?) → CellsOf E 0 N w' xs cs

section
variable {α : Type} {E : El α} {e : TypeId} {N0 M N : Nat} {w : World} {v : Value} {xs : List α}
theorem OwnR.nil (E : El α) (e : TypeId) (N0 M : Nat) (w : World) (h : N0 ≤ M) : OwnR E e N0 M w.heap.size w (.slice none 0 0) [] :=
  ⟨h, Nat.le_refl _, by simp, [], fun _ => False, World.ownsRow_nil _ _ _ _, by simp [Value.ownBlock], fun b h => h.elim, fun w' _ => CellsOf.nil E _ _ w'⟩
theorem OwnR.widen (h : OwnR E e N0 M N w v xs) {N' : Nat} (hN : N ≤ N') (hs : N' ≤ w.heap.size) : OwnR E e N0 M N' w v xs := by
  obtain ⟨hm, h0, h1, cs, S, h2, h3, h4, h5⟩ := h
  exact ⟨hm, hs, h1, cs, S, h2, fun g hg => ⟨by have := (h3 g hg).1; omega, (h3 g hg).2⟩, fun b hb => by have := h4 b hb; omega, fun w' hw' => (h5 w' hw').mono (Nat.le_refl _) hN⟩
theorem OwnR.lt (h : OwnR E e N0 M N w v xs) {g : Nat} (hg : v.ownBlock = some g) : M ≤ g ∧ g < N := by
  obtain ⟨hm, h0, h1, cs, S, h2, h3, h4, h5⟩ := h
  exact ⟨(h2.lt g hg).1, (h3 g hg).1⟩
theorem OwnR.size (h : OwnR E e N0 M N w v xs) : N ≤ w.heap.size := h.2.1
theorem OwnR.step (h : OwnR E e N0 M N w v xs) {w1 : World} (hz : N ≤ w1.heap.size) (hs : ∀ b, b < N0 ∨ (M ≤ b ∧ b < N) → w1.heap[b]? = w.heap[b]?) : OwnR E e N0 M N w1 v xs := by
  have hlt := fun g hg => h.lt (g := g) hg
  obtain ⟨hm, h0, h1, cs, S, h2, h3, h4, h5⟩ := h
  exact ⟨hm, hz, h1, cs, S, ownsRow_block h2 fun g hg => hs g (.inr (hlt g hg)), h3, h4, fun w' hw' => h5 w' fun b hb => (hw' b hb).trans (hs b (h4 b hb))⟩
theorem OwnR.below (h : OwnR E e N0 M N w v xs) {L : Nat} {w1 : World} (hb : Below L w w1) (hL : N ≤ L) (hL0 : N0 ≤ L) : OwnR E e N0 M N w1 v xs :=
  h.step (by have := h.2.1; have := hb.size; omega) fun b hb' => hb.block b (by omega)
theorem OwnR.alloc (h : OwnR E e N0 M N w v xs) (hM : M ≤ w.heap.size) (o : Obj) : OwnR E e N0 M N (w.alloc o) v xs :=
  h.step (by have := h.2.1; simp; omega) fun b hb => Below.heap_alloc w o b (by have := h.1; have := h.2.1; omega)
theorem OwnR.setCell (h : OwnR E e N0 M N w v xs) {a : Addr} (ha : (N0 ≤ a.block ∧ a.block < M) ∨ (N0 ≤ a.block ∧ N ≤ a.block)) (u : Value) : OwnR E e N0 M N (w.setCell a u) v xs :=
  h.step (by have := h.2.1; rw [size_set]; omega) fun b hb => Below.heap_setCell w a u b (by omega)
theorem OwnR.drew (h : OwnR E e N0 M N w v xs) : OwnR E e N0 M N w.drew v xs := h
theorem OwnR.low (h : OwnR E e N0 M N w v xs) {M' : Nat} (h0 : N0 ≤ M') (hM : M' ≤ M) : OwnR E e N0 M' N w v xs := by
  obtain ⟨hm, h0', h1, cs, S, h2, h3, h4, h5⟩ := h
  exact ⟨h0, h0', h1, cs, S, ownsRow_low h2 hM, h3, fun b hb => by have := h4 b hb; omega, h5⟩
theorem OwnR.row (h : OwnR E e N0 M N w v xs) : ∃ A c, v = .slice A xs.length c ∧ xs.length ≤ c ∧ Row E 0 N w A xs := by
  have hlt := fun g hg => h.lt (g := g) hg
  obtain ⟨hm, h0, h1, cs, S, h2, h3, h4, h5⟩ := h
  rcases h2.2 with ⟨rfl, h6⟩ | ⟨g, cap, cur, rfl, h6⟩
  · have h8 : xs = [] := List.eq_nil_of_length_eq_zero h6
    subst h8
    exact ⟨none, 0, rfl, by simp, Row.nil E _ _ w none⟩
  · refine ⟨_, cap, rfl, by obtain ⟨_, _, _, h, _⟩ := h6; first | exact h | omega, ⟨h1, fun _ => ⟨g, 0, rfl, Nat.zero_le _, (hlt g rfl).2, fun j x hj => ?_⟩⟩⟩
    have hc := h5 w fun b hb => rfl
    refine ⟨_, hc.2 j x hj, fun i u hu => ?_⟩
    rw [List.getElem?_take] at hu
    split at hu
    · rename_i hi
      rw [List.getElem?_drop] at hu
      have h9 := h2.cells (g := g) rfl (j * E.sz + i) u hu
      have ha : (⟨g, 0, none⟩ : Addr).add (j * E.sz + i) = ⟨g, 0 + j * E.sz + i, none⟩ := by unfold Addr.add; split <;> simp_all
      rw [ha] at h9
      exact h9
    · cases hu
theorem OwnR.below_grown (h : OwnR E e N0 M N w v xs) {L : Nat} {w0 W w1 : World} (hb : Below L w0 W) (hg : W.grownBy w1 v.ownBlock) (hM : L ≤ M) (hs : L ≤ W.heap.size) : Below L w0 w1 :=
  hb.grown hg hs fun g e => by have := h.lt e; omega
theorem OwnR.block_far (h : OwnR E e N0 M N w v xs) {W w1 : World} (hg : W.grownBy w1 v.ownBlock) {b : Nat} {x : Obj} (hb : W.heap[b]? = some x) (hne : b < M ∨ N ≤ b) : w1.heap[b]? = some x := by
  rw [← hb]
  exact hg.block b (box_lt hb) fun e => by have := h.lt e.symm; omega
/-- an own row is one -/
theorem Own.ownR {B : Nat} (h : Own E e B N w v xs) {N0 : Nat} (h0 : N0 ≤ B) : OwnR E e N0 B N w v xs := by
  obtain ⟨h0', h1, cs, S, h2, h3, h4, h5⟩ := h
  exact ⟨h0, h0', h1, cs, S, h2, h3, fun b hb => .inr (h4 b hb), fun w' hw' => (h5 w' hw').mono (Nat.zero_le _) (Nat.le_refl _)⟩
end

section
variable {P : Program} {α : Type}
theorem wp_append1R (w : World) {o : Oper} {a : Act} {K : Act → World → Prop} {Q : Exit → Act → World → Prop} (E : El α) (s x : Operand) (t e : TypeId)
    (ho : o.op = .call { callee := .builtin .append, args := #[s, x], argTypes := #[t, t] }) {z : Value}
    (ht : P.underlying t = some (.slice e)) (hi : (P.info? e).map (fun i => (i.zero, i.size, i.bytes)) = some (some z, E.sz, E.by_)) (hzs : z.cells.size = E.sz)
    {N0 M N B' N' H : Nat} {v : Value} {xs : List α} {y : α} {ycs : Array Value} (hs : a.eval s = v) (hx : a.eval x = .slice (some ⟨H, 0, none⟩) 1 1) (hbox : w.heap[H]? = some (.cells ycs e (0, 0)))
    (HO : OwnR E e N0 M N w v xs) (hy : E.R B' N' w y ycs.toList) (hd : N' ≤ N0 ∨ (N ≤ B' ∧ M ≤ B')) (hN' : N' ≤ w.heap.size) (hM : M ≤ w.heap.size) (hby : 0 < E.by_) (hl : (xs.length + 1) * E.by_ ≤ 140737488355328)
    (h : ∀ g c w', OwnR E e N0 M w'.heap.size w' (.slice (some ⟨g, 0, none⟩) (xs.length + 1) c) (xs ++ [y]) → w.grownBy w' v.ownBlock → (v.ownBlock = some g ∨ g = w.heap.size) → K (a.put o.dst (.slice (some ⟨g, 0, none⟩) (xs.length + 1) c)) w') :
    o.wp P a w K Q := by
  have hlt := fun g hg => HO.lt (g := g) hg
  obtain ⟨hm, h0_, h1, cs, S, h2, h3, h4, h5⟩ := HO
  obtain ⟨i, hi0, hz0, hz1, hz2⟩ := info_parts hi
  have hyl := E.len _ _ _ _ _ hy
  refine wp_append_lies w s x t ho M e i z E.sz E.by_ ht hi0 hz0 hz1 hz2 hzs E.pos v xs.length cs hs h2 ⟨H, 0, none⟩ 1 1 ycs.toList hx (by simpa using hyl)
    (World.news_of_block hbox) (E.one _ _ _ _ _ hy) (by omega) (by unfold maxLen; have := Nat.le_mul_of_pos_right (xs.length + 1) hby; omega) hl hM w.heap.size rfl ?_
  intro g c w' hown hg hat hgl
  have hz := hg.size
  refine h g c w' ⟨hm, Nat.le_refl _, by rw [List.length_append]; simpa using hl, cs ++ ycs.toList, fun b => S b ∨ (B' ≤ b ∧ b < N'), by rw [List.length_append]; exact hown, ?_, ?_, ?_⟩ hg hat
  · intro g' hg'
    obtain rfl : g = g' := by simpa [Value.ownBlock] using hg'
    refine ⟨hgl, ?_⟩
    rcases hat with hat | rfl
    · have := h3 g hat
      have := hlt g hat
      rintro (h6 | h6)
      · exact (h3 g hat).2 h6
      · omega
    · rintro (h6 | h6)
      · have := h4 _ h6; omega
      · omega
  · rintro b (hb | hb)
    · have := h4 b hb; omega
    · omega
  · intro w'' hw''
    have key : ∀ b, S b ∨ (B' ≤ b ∧ b < N') → w'.heap[b]? = w.heap[b]? := by
      intro b hb
      refine hg.block b (by rcases hb with hb | hb; have := h4 b hb; omega; omega) fun e => ?_
      have := hlt b e.symm
      rcases hb with hb | hb
      · exact (h3 b e.symm).2 hb
      · omega
    exact ((h5 w'' fun b hb => (hw'' b (.inl hb)).trans (key b (.inl hb))).mono (Nat.le_refl _) (by omega)).snoc (E.mono _ _ _ _ _ (E.loc _ _ _ _ _ hy w'' fun b hb hn => (hw'' b (.inr ⟨hb, hn⟩)).trans (key b (.inr ⟨hb, hn⟩))) _ _ (Nat.zero_le _) (by omega))
theorem wpList_append1R (w : World) {ops : Array Oper} {rest : List Oper} {o : Oper} {a : Act} {Q : Exit → Act → World → Prop} (hgd : o.guard = none) (E : El α) (s x : Operand) (t e : TypeId)
    (ho : o.op = .call { callee := .builtin .append, args := #[s, x], argTypes := #[t, t] }) {z : Value}
    (ht : P.underlying t = some (.slice e)) (hi : (P.info? e).map (fun i => (i.zero, i.size, i.bytes)) = some (some z, E.sz, E.by_)) (hzs : z.cells.size = E.sz)
    {N0 M N B' N' H : Nat} {v : Value} {xs : List α} {y : α} {ycs : Array Value} (hs : a.eval s = v) (hx : a.eval x = .slice (some ⟨H, 0, none⟩) 1 1) (hbox : w.heap[H]? = some (.cells ycs e (0, 0)))
    (HO : OwnR E e N0 M N w v xs) (hy : E.R B' N' w y ycs.toList) (hd : N' ≤ N0 ∨ (N ≤ B' ∧ M ≤ B')) (hN' : N' ≤ w.heap.size) (hM : M ≤ w.heap.size) (hby : 0 < E.by_) (hl : (xs.length + 1) * E.by_ ≤ 140737488355328)
    (h : ∀ g c w', OwnR E e N0 M w'.heap.size w' (.slice (some ⟨g, 0, none⟩) (xs.length + 1) c) (xs ++ [y]) → w.grownBy w' v.ownBlock → (v.ownBlock = some g ∨ g = w.heap.size) → wpList P ops Q rest (a.put o.dst (.slice (some ⟨g, 0, none⟩) (xs.length + 1) c)) w') :
    wpList P ops Q (o :: rest) a w :=
  wpList_plain hgd fun _ hK => wp_append1R w E s x t e ho ht hi hzs hs hx hbox HO hy hd hN' hM hby hl fun g c w' h2 h3 h4 => hK _ _ (h g c w' h2 h3 h4)
/-- The same, whichever of the two stretches the element's memory lies in. -/
theorem wpList_append1D (w : World) {ops : Array Oper} {rest : List Oper} {o : Oper} {a : Act} {Q : Exit → Act → World → Prop} (hgd : o.guard = none) (E : El α) (s x : Operand) (t e : TypeId)
    (ho : o.op = .call { callee := .builtin .append, args := #[s, x], argTypes := #[t, t] }) {z : Value}
    (ht : P.underlying t = some (.slice e)) (hi : (P.info? e).map (fun i => (i.zero, i.size, i.bytes)) = some (some z, E.sz, E.by_)) (hzs : z.cells.size = E.sz)
    {N0 M N B1 B' N' H : Nat} {v : Value} {xs : List α} {y : α} {ycs : Array Value} (hs : a.eval s = v) (hx : a.eval x = .slice (some ⟨H, 0, none⟩) 1 1) (hbox : w.heap[H]? = some (.cells ycs e (0, 0)))
    (HO : OwnR E e N0 M N w v xs) (hy : E.R B1 N0 w y ycs.toList ∨ E.R B' N' w y ycs.toList) (hd : N ≤ B' ∧ M ≤ B') (hN' : N' ≤ w.heap.size) (hM : M ≤ w.heap.size) (hby : 0 < E.by_) (hl : (xs.length + 1) * E.by_ ≤ 140737488355328)
    (h : ∀ g c w', OwnR E e N0 M w'.heap.size w' (.slice (some ⟨g, 0, none⟩) (xs.length + 1) c) (xs ++ [y]) → w.grownBy w' v.ownBlock → (v.ownBlock = some g ∨ g = w.heap.size) → wpList P ops Q rest (a.put o.dst (.slice (some ⟨g, 0, none⟩) (xs.length + 1) c)) w') :
    wpList P ops Q (o :: rest) a w := by
  rcases hy with hy | hy
  · exact wpList_append1R w hgd E s x t e ho ht hi hzs hs hx hbox HO hy (.inl (Nat.le_refl _)) (Nat.le_trans HO.1 hM) hM hby hl h
  · exact wpList_append1R w hgd E s x t e ho ht hi hzs hs hx hbox HO hy (.inr hd) hN' hM hby hl h
end
end Go.Proofs.Ytifakbipdmceiaa
end
