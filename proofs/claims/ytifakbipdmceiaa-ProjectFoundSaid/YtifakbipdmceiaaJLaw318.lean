import Derived.Test.YtifakbipdmceiaaJLaw31
set_option linter.unusedVariables false
namespace Go.Proofs.Ytifakbipdmceiaa
open Go.RowKit

section
variable {α : Type} {E : El α} {B N : Nat} {w : World}
theorem CellsOf.append {xs ys : List α} {cs ds : List Value} (h : CellsOf E B N w xs cs) (k : CellsOf E B N w ys ds) : CellsOf E B N w (xs ++ ys) (cs ++ ds) := by
  refine ⟨by rw [List.length_append, List.length_append, h.1, k.1, Nat.add_mul], fun j x hj => ?_⟩
  rcases Nat.lt_or_ge j xs.length with hlt | hge
  · rw [List.getElem?_append_left hlt] at hj
    have hle : j * E.sz + E.sz ≤ cs.length := by rw [h.1, ← Nat.succ_mul]; exact Nat.mul_le_mul_right _ hlt
    rw [List.drop_append_of_le_length (by omega), List.take_append_of_le_length (by rw [List.length_drop]; omega)]
    exact h.2 j x hj
  · rw [List.getElem?_append_right hge] at hj
    have h2 := k.2 _ x hj
    have e1 : j * E.sz = cs.length + (j - xs.length) * E.sz := by rw [h.1, ← Nat.add_mul]; congr 1; omega
    rw [e1, List.drop_append, List.drop_eq_nil_of_le (by omega)]
    simpa using h2
theorem CellsOf.one {xs : List α} {cs : List Value} (h : CellsOf E B N w xs cs) : ∀ u ∈ cs, u.oneCell' = true := by
  intro u hu
  obtain ⟨i, hi, rfl⟩ := List.getElem_of_mem hu
  have hp := E.pos
  have hl := h.1
  have hj : i / E.sz < xs.length := by rw [Nat.div_lt_iff_lt_mul hp]; omega
  have h2 := h.2 (i / E.sz) xs[i / E.sz] (by simp [hj])
  refine E.one _ _ _ _ _ h2 _ ?_
  rw [List.mem_iff_getElem?]
  refine ⟨i % E.sz, ?_⟩
  have hm := Nat.mod_lt i hp
  rw [List.getElem?_take, if_pos hm, List.getElem?_drop]
  have e1 : i / E.sz * E.sz + i % E.sz = i := by rw [Nat.mul_comm]; exact Nat.div_add_mod i E.sz
  rw [e1]; simp [hi]
end
section
variable {P : Program} {α : Type}
/-- append of a whole row of the call's own. -/
theorem wp_appendN (w : World) {o : Oper} {a : Act} {K : Act → World → Prop} {Q : Exit → Act → World → Prop} (E : El α) (s x : Operand) (t e : TypeId)
    (ho : o.op = .call { callee := .builtin .append, args := #[s, x], argTypes := #[t, t] }) {z : Value}
    (ht : P.underlying t = some (.slice e)) (hi : (P.info? e).map (fun i => (i.zero, i.size, i.bytes)) = some (some z, E.sz, E.by_)) (hzs : z.cells.size = E.sz)
    {B N B' N' : Nat} {v v' : Value} {xs ys : List α} (B0 : Nat) (hs : a.eval s = v) (hx : a.eval x = v')
    (HO : Own E e B N w v xs) (HY : Own E e B' N' w v' ys) (hd : N ≤ B' ∨ N' ≤ B) (h0 : B0 ≤ B) (h0' : B0 ≤ B') (hB0 : B0 ≤ w.heap.size) (hby : 0 < E.by_) (hne : 0 < ys.length) (hl : (xs.length + ys.length) * E.by_ ≤ 140737488355328)
    (h : ∀ g c w', Own E e B0 w'.heap.size w' (.slice (some ⟨g, 0, none⟩) (xs.length + ys.length) c) (xs ++ ys) → w.grownBy w' v.ownBlock → (v.ownBlock = some g ∨ g = w.heap.size) → K (a.put o.dst (.slice (some ⟨g, 0, none⟩) (xs.length + ys.length) c)) w') :
    o.wp P a w K Q := by
  have hlt := fun g hg => HO.lt (g := g) hg
  obtain ⟨h0_, h1, cs, S, h2, h3, h4, h5⟩ := HO
  obtain ⟨y0, y1, ds, T, y2, y3, y4, y5⟩ := HY
  obtain ⟨i, hi0, hz0, hz1, hz2⟩ := info_parts hi
  have hc := y5 w fun _ _ => rfl
  obtain ⟨H, cap, rfl⟩ : ∃ H cap, v' = .slice (some ⟨H, 0, none⟩) ys.length cap := by
    rcases y2.2 with ⟨rfl, h6⟩ | ⟨g, cap, cur, rfl, h6⟩
    · omega
    · exact ⟨g, cap, rfl⟩
  refine wp_append_lies w s x t ho B0 e i z E.sz E.by_ ht hi0 hz0 hz1 hz2 hzs E.pos v xs.length cs hs (ownsRow_low h2 (by omega)) ⟨H, 0, none⟩ ys.length cap ds hx hc.1
    (fun j u hu => y2.cells (g := H) rfl j u hu) hc.one hne (by unfold maxLen; have := Nat.le_mul_of_pos_right (xs.length + ys.length) hby; omega) hl hB0 w.heap.size rfl ?_
  intro g c w' hown hg hat hgl
  refine h g c w' ⟨Nat.le_refl _, by rw [List.length_append]; exact hl, cs ++ ds, fun b => S b ∨ T b, by rw [List.length_append]; exact hown, ?_, ?_, ?_⟩ hg hat
  · intro g' hg'
    obtain rfl : g = g' := by simpa [Value.ownBlock] using hg'
    refine ⟨hgl, ?_⟩
    rcases hat with hat | rfl
    · have := h3 g hat
      have := hlt g hat
      rintro (h6 | h6)
      · exact (h3 g hat).2 h6
      · have := y4 _ h6; omega
    · rintro (h6 | h6)
      · have := (h4 _ h6).2; omega
      · have := (y4 _ h6).2; omega
  · have := hg.size
    rintro b (hb | hb)
    · have := h4 b hb; omega
    · have := y4 b hb; omega
  · intro w'' hw''
    have key : ∀ b, S b ∨ T b → w'.heap[b]? = w.heap[b]? := by
      intro b hb
      refine hg.block b (by rcases hb with hb | hb; have := (h4 b hb).2; omega; have := (y4 b hb).2; omega) fun e => ?_
      have := hlt b e.symm
      rcases hb with hb | hb
      · exact (h3 b e.symm).2 hb
      · have := y4 b hb; omega
    have hz := hg.size
    exact ((h5 w'' fun b hb => (hw'' b (.inl hb)).trans (key b (.inl hb))).mono h0 (by omega)).append ((y5 w'' fun b hb => (hw'' b (.inr hb)).trans (key b (.inr hb))).mono h0' (by omega))
theorem wpList_appendN (w : World) {ops : Array Oper} {rest : List Oper} {o : Oper} {a : Act} {Q : Exit → Act → World → Prop} (hgd : o.guard = none) (E : El α) (s x : Operand) (t e : TypeId)
    (ho : o.op = .call { callee := .builtin .append, args := #[s, x], argTypes := #[t, t] }) {z : Value}
    (ht : P.underlying t = some (.slice e)) (hi : (P.info? e).map (fun i => (i.zero, i.size, i.bytes)) = some (some z, E.sz, E.by_)) (hzs : z.cells.size = E.sz)
    {B N B' N' : Nat} {v v' : Value} {xs ys : List α} (B0 : Nat) (hs : a.eval s = v) (hx : a.eval x = v')
    (HO : Own E e B N w v xs) (HY : Own E e B' N' w v' ys) (hd : N ≤ B' ∨ N' ≤ B) (h0 : B0 ≤ B) (h0' : B0 ≤ B') (hB0 : B0 ≤ w.heap.size) (hby : 0 < E.by_) (hne : 0 < ys.length) (hl : (xs.length + ys.length) * E.by_ ≤ 140737488355328)
    (h : ∀ g c w', Own E e B0 w'.heap.size w' (.slice (some ⟨g, 0, none⟩) (xs.length + ys.length) c) (xs ++ ys) → w.grownBy w' v.ownBlock → (v.ownBlock = some g ∨ g = w.heap.size) → wpList P ops Q rest (a.put o.dst (.slice (some ⟨g, 0, none⟩) (xs.length + ys.length) c)) w') :
    wpList P ops Q (o :: rest) a w :=
  wpList_plain hgd fun _ hK => wp_appendN w E s x t e ho ht hi hzs B0 hs hx HO HY hd h0 h0' hB0 hby hne hl fun g c w' h2 h3 h4 => hK _ _ (h g c w' h2 h3 h4)
theorem run_append_zero (w : World) (t ty e : TypeId) (i : TypeInfo) (ht : P.underlying t = some (.slice e)) (hi : P.info? e = some i) (base A : Option Addr) (n c d : Nat) (hle : n ≤ c) :
    (Builtin.append_ #[t, t] ty #[.slice base n c, .slice A 0 d]).run P w = .ok (.slice base n c) w := by
  cases base <;> cases A <;> simp [Builtin.append_, run_underlying ht, sizeOf, typeInfo, hi, Builtin.lenOf, Builtin.firstCells, hle, storeCells, loadCells, loadCellsFrom]
/-- append of a row of the call's own, be it empty or not. -/
theorem wp_appendO (w : World) {o : Oper} {a : Act} {K : Act → World → Prop} {Q : Exit → Act → World → Prop} (E : El α) (s x : Operand) (t e : TypeId)
    (ho : o.op = .call { callee := .builtin .append, args := #[s, x], argTypes := #[t, t] }) {z : Value}
    (ht : P.underlying t = some (.slice e)) (hi : (P.info? e).map (fun i => (i.zero, i.size, i.bytes)) = some (some z, E.sz, E.by_)) (hzs : z.cells.size = E.sz)
    {B N B' N' : Nat} {v v' : Value} {xs ys : List α} (B0 : Nat) (hs : a.eval s = v) (hx : a.eval x = v')
    (HO : Own E e B N w v xs) (HY : Own E e B' N' w v' ys) (hd : N ≤ B' ∨ N' ≤ B) (h0 : B0 ≤ B) (h0' : B0 ≤ B') (hB0 : B0 ≤ w.heap.size) (hby : 0 < E.by_) (hl : (xs.length + ys.length) * E.by_ ≤ 140737488355328)
    (h : ∀ v2 w', Own E e B0 w'.heap.size w' v2 (xs ++ ys) → w.grownBy w' v.ownBlock → K (a.put o.dst v2) w') : o.wp P a w K Q := by
  rcases Nat.eq_zero_or_pos ys.length with hz | hp
  · obtain ⟨A, c, rfl, hc, _⟩ := HO.row
    obtain ⟨A', c', rfl, hc', _⟩ := HY.row
    obtain ⟨i, hi0, hz0, hz1, hz2⟩ := info_parts hi
    have hys : ys = [] := List.eq_nil_of_length_eq_zero hz
    subst hys
    have hr := run_append_zero (P := P) w t o.type e i ht hi0 A A' xs.length c c' hc
    unfold Oper.wp execOp
    simp only [ho, resolve, invoke, builtin, Sem.run_bind, Sem.run_pure, Result.andThen_ok, List.map_toArray, List.map_cons, List.map_nil, hs, hx, List.length_nil, hr]
    have h9 := h (.slice A xs.length c) w (by simpa using (HO.low h0).widen HO.1 (Nat.le_refl _)) ⟨rfl, rfl, rfl, Nat.le_refl _, fun _ _ _ => rfl⟩
    exact h9
  · exact wp_appendN w E s x t e ho ht hi hzs B0 hs hx HO HY hd h0 h0' hB0 hby hp hl fun g c w' h2 h3 h4 => h _ w' (by simpa using h2) h3
theorem wpList_appendO (w : World) {ops : Array Oper} {rest : List Oper} {o : Oper} {a : Act} {Q : Exit → Act → World → Prop} (hgd : o.guard = none) (E : El α) (s x : Operand) (t e : TypeId)
    (ho : o.op = .call { callee := .builtin .append, args := #[s, x], argTypes := #[t, t] }) {z : Value}
    (ht : P.underlying t = some (.slice e)) (hi : (P.info? e).map (fun i => (i.zero, i.size, i.bytes)) = some (some z, E.sz, E.by_)) (hzs : z.cells.size = E.sz)
    {B N B' N' : Nat} {v v' : Value} {xs ys : List α} (B0 : Nat) (hs : a.eval s = v) (hx : a.eval x = v')
    (HO : Own E e B N w v xs) (HY : Own E e B' N' w v' ys) (hd : N ≤ B' ∨ N' ≤ B) (h0 : B0 ≤ B) (h0' : B0 ≤ B') (hB0 : B0 ≤ w.heap.size) (hby : 0 < E.by_) (hl : (xs.length + ys.length) * E.by_ ≤ 140737488355328)
    (h : ∀ v2 w', Own E e B0 w'.heap.size w' v2 (xs ++ ys) → w.grownBy w' v.ownBlock → wpList P ops Q rest (a.put o.dst v2) w') :
    wpList P ops Q (o :: rest) a w :=
  wpList_plain hgd fun _ hK => wp_appendO w E s x t e ho ht hi hzs B0 hs hx HO HY hd h0 h0' hB0 hby hl fun v2 w' h2 h3 => hK _ _ (h v2 w' h2 h3)
end
end Go.Proofs.Ytifakbipdmceiaa
