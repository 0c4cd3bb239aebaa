import Derived.Test.YtifakbipdmceiaaJLawA50
import Derived.Test.YtifakbipdmceiaaRows
import Derived.Test.YtifakbipdmceiaaJLawA37
set_option linter.unusedVariables false
set_option linter.unusedSimpArgs false
namespace Go.Proofs.Ytifakbipdmceiaa
open Go.RowKit Go.ChangeShapes Go.WideShapes

/-! ### arguments, opened, and their bulk -/
mutual
def bulkV : Val → Nat
  | .mk _ _ _ t l => t.size + 1 + bulkL l
def bulkL : List Val → Nat
  | [] => 0
  | x :: xs => bulkV x + bulkL xs
end
def bulkE (e : Ev) : Nat := e.p.size + e.o.size + e.q.size + bulkV e.v + 1
theorem bulkL_sum : ∀ l : List Val, bulkL l = (l.map bulkV).sum
  | [] => by rw [bulkL]; rfl
  | x :: xs => by rw [bulkL, bulkL_sum xs]; simp
mutual
theorem tx_bulk : ∀ x : Val, bulkV x ≤ 1048576 → TxV x
  | .mk _ _ _ t l, h => by rw [bulkV] at h; rw [TxV]; exact ⟨by omega, txL_bulk l (by omega)⟩
theorem txL_bulk : ∀ l : List Val, bulkL l ≤ 1048576 → TxL l
  | [], _ => by rw [TxL]; trivial
  | x :: xs, h => by rw [bulkL] at h; rw [TxL]; exact ⟨tx_bulk x (by omega), txL_bulk xs (by omega)⟩
end
theorem sum_mem {α : Type} (μ : α → Nat) : ∀ (l : List α) (x : α), x ∈ l → μ x ≤ (l.map μ).sum
  | y :: ys, x, h => by
    rcases List.mem_cons.1 h with rfl | h2
    · simp
    · have := sum_mem μ ys x h2; simp; omega
theorem sum_len {α : Type} (μ : α → Nat) (h1 : ∀ x, 1 ≤ μ x) : ∀ l : List α, l.length ≤ (l.map μ).sum
  | [] => by simp
  | y :: ys => by have := sum_len μ h1 ys; have := h1 y; simp; omega
theorem bulkE_pos (e : Ev) : 1 ≤ bulkE e := by unfold bulkE; omega
theorem tx_events {l : List Ev} (h : (l.map bulkE).sum ≤ 1048576) : ∀ e ∈ l, TxV e.v := fun e he => by
  have h1 := sum_mem bulkE l e he
  have h2 : bulkV e.v ≤ bulkE e := by unfold bulkE; omega
  exact tx_bulk e.v (by omega)
theorem str_bulk {H : Type} (s : ByteArray) : s.size ≤ Rows.uptoBulk (DataW.lit (H := H) (.string s.data.toList)) := by
  rw [Rows.uptoBulk]
  show s.data.size ≤ s.data.toList.length + 1
  rw [Array.length_toList]
  omega
theorem sum_bulk {α H : Type} (μ : α → Nat) : ∀ (xs : List α) (ys : List (DataW H)), xs.length = ys.length → (∀ (i : Nat) (u : α) (d : DataW H), xs[i]? = some u → ys[i]? = some d → μ u ≤ Rows.uptoBulk d) → (xs.map μ).sum ≤ Rows.uptoBulkAll ys
  | [], [], _, _ => by simp
  | [], _ :: _, h, _ => by simp at h
  | _ :: _, [], h, _ => by simp at h
  | x :: xs, y :: ys, h, h2 => by
    have ih := sum_bulk μ xs ys (by simpa using h) (fun i u d hu hd => h2 (i + 1) u d (by simpa using hu) (by simpa using hd))
    have h0 := h2 0 x y rfl rfl
    simp only [List.map_cons, List.sum_cons, Rows.uptoBulkAll]
    omega
section
variable {H : Type} {enc : TypeId × Value → H} {w : World}
/-- A slice whose elements have each a reading. -/
theorem open_rowsU {α : Type} (E : El α) (μ : α → Nat) {t e : TypeId} {fuel : Nat} {cs : List Value} {x : DataW H × List MemPlace} (ht : Try.prog.underlying t = some (.slice e)) (hC : Try.prog.cellsOf e = E.sz) (hB : Try.prog.bytesOf e = E.by_)
    (hE : ∀ n cs' y, n < fuel → DataW.trod enc Try.prog w 0 (fun _ => true) true n e cs' = some y → (∀ m ∈ y.1.weights Try.prog e, m ≤ reachBytes) → ∃ v, E.R 0 w.heap.size w v cs' ∧ μ v ≤ Rows.uptoBulk y.1)
    (h : DataW.trod enc Try.prog w 0 (fun _ => true) true fuel t cs = some x) (hw : ∀ m ∈ x.1.weights Try.prog t, m ≤ reachBytes) :
    ∃ A l c, cs = [.slice A l.length c] ∧ l.length ≤ c ∧ c * E.by_ ≤ 140737488351232 ∧ Row E 0 w.heap.size w A l ∧ (l.map μ).sum ≤ Rows.uptoBulk x.1 := by
  rcases DataW.trod_slice ht h with ⟨rfl, rfl⟩ | ⟨a, len, cap, elems, rest, n, hn, rfl, rfl, _, hl, hm, hlen, hel, hsp, _⟩
  · exact ⟨none, [], 0, rfl, Nat.le_refl _, by simp, Row.nil _ _ _ _ _, by simp⟩
  · have hrl := (hsp rfl).1
    have h1 : (elems.length + rest.length) * E.by_ ≤ reachBytes := by
      have := hw ((elems.length + rest.length) * E.by_) (by simp [DataW.weights, ht, hB])
      exact this
    have hall : ∀ y ∈ elems, ∀ m ∈ y.1.weights Try.prog e, m ≤ reachBytes := by
      intro y hy m hm'
      refine hw m ?_
      simp only [DataW.weights, ht, List.mem_cons, List.mem_append]
      exact .inr (.inl (weightsAll_mem (List.mem_map.2 ⟨y, hy, rfl⟩) m hm'))
    rw [reach_eq] at h1
    have hcap : elems.length + rest.length = cap := by omega
    rw [hcap] at h1
    rcases Nat.eq_zero_or_pos len with h0 | hpos
    · subst h0
      exact ⟨some a, [], cap, rfl, Nat.zero_le _, h1, Row.nil _ _ _ _ _, by simp⟩
    · have hcell : ∀ i, i < len → ∃ cs', (w.cells? 0 (a.add (i * E.sz)) E.sz) = some cs' ∧ ∃ v, E.R 0 w.heap.size w v cs' ∧ ∀ y, elems[i]? = some y → μ v ≤ Rows.uptoBulk y.1 := by
        intro i hi
        have := hel i hi
        rw [hC, show elems[i]? = some elems[i] by simp [hlen, hi]] at this
        obtain ⟨cs', hc, ht'⟩ := Option.bind_eq_some_iff.1 this
        obtain ⟨v, hv, hb⟩ := hE n cs' _ (by omega) ht' (hall _ (List.getElem_mem _))
        exact ⟨cs', hc, v, hv, fun y hy => by rw [List.getElem?_eq_getElem (by omega)] at hy; cases hy; exact hb⟩
      obtain ⟨b, o, rfl, hbs⟩ : ∃ b o, a = ⟨b, o, none⟩ ∧ b < w.heap.size := by
        obtain ⟨cs', hc, _⟩ := hcell 0 hpos
        obtain ⟨_, hcl, hat⟩ := World.cells?_some hc
        have := hat 0 E.pos
        rw [Nat.zero_mul] at this
        have hp := E.pos
        have e0 : cs'[0]? = some (cs'[0]'(by omega)) := List.getElem?_eq_getElem (by omega)
        rw [e0, add_zero', add_zero'] at this
        exact at_none this
      obtain ⟨xs, hxl, hx⟩ := pick_list (p := fun i v => ∃ cs', (w.cells? 0 ((⟨b, o, none⟩ : Addr).add (i * E.sz)) E.sz) = some cs' ∧ E.R 0 w.heap.size w v cs' ∧ ∀ y, elems[i]? = some y → μ v ≤ Rows.uptoBulk y.1) len (fun i hi => by
        obtain ⟨cs', h2, v, h3⟩ := hcell i hi
        exact ⟨v, cs', h2, h3⟩)
      refine ⟨some ⟨b, o, none⟩, xs, cap, by rw [hxl], by rw [hxl]; exact hl, h1, ⟨?_, fun _ => ⟨b, o, rfl, Nat.zero_le _, hbs, fun j v hj => ?_⟩⟩, ?_⟩
      · rw [hxl]
        have := Nat.mul_le_mul_right E.by_ hl
        omega
      · obtain ⟨cs', h2, h3, _⟩ := hx j v hj
        refine ⟨cs', h3, fun i u hu => ?_⟩
        obtain ⟨_, hcl, hat⟩ := World.cells?_some h2
        have hi : i < E.sz := by
          rcases Nat.lt_or_ge i E.sz with h | h
          · exact h
          · rw [List.getElem?_eq_none (by omega)] at hu; cases hu
        have := hat i hi
        rw [add_none, add_none] at this
        rw [this, hu]
      · have := sum_bulk μ xs (elems.map (·.1)) (by simp [hxl, hlen]) (fun i u d hu hd => by
          obtain ⟨cs', _, _, h5⟩ := hx i u hu
          rw [List.getElem?_map] at hd
          cases he : elems[i]? with
          | none => rw [he] at hd; cases hd
          | some y => rw [he] at hd; cases hd; exact h5 y he)
        simp only [Rows.uptoBulk]
        omega

set_option maxRecDepth 100000 in
theorem open_valU (fuel : Nat) : ∀ (cs : List Value) (x : DataW H × List MemPlace), DataW.trod enc Try.prog w 0 (fun _ => true) true fuel 32 cs = some x → (∀ m ∈ x.1.weights Try.prog 32, m ≤ reachBytes) → ∃ v, Val.Rd 0 w.heap.size w v cs ∧ bulkV v ≤ Rows.uptoBulk x.1 := by
  induction fuel using Nat.strongRecOn with
  | ind fuel ih =>
    intro cs x h hw
    obtain ⟨ys, n, rfl, rfl, hlen, hyl, hf⟩ := DataW.trod_struct Try.underlying32 h
    rw [cellsV] at hlen
    match ys, hyl, cs, hlen with
    | [y0, y1, y2, y3, y4], _, [c0, c1, c2, c3, c4], _ =>
      have h0 := hf 0 _ rfl
      have h1 := hf 1 _ rfl
      have h2 := hf 2 _ rfl
      have h3 := hf 3 _ rfl
      have h4 := hf 4 _ rfl
      simp only [cellsK, cellsI64, cellsStr, cellsVs, List.drop_zero, List.drop_succ_cons, List.take_succ_cons, List.take_zero, List.getElem?_cons_zero, List.getElem?_cons_succ] at h0 h1 h2 h3 h4
      have hw' : ∀ m ∈ y3.1.weights Try.prog 9, m ≤ reachBytes := fun m hm => hw m (by
        simp only [DataW.weights, Try.underlying32, List.map_cons, List.map_nil, DataW.weightsEach, List.mem_append]
        exact .inr (.inr (.inr (.inl hm))))
      have hw4 : ∀ m ∈ y4.1.weights Try.prog 30, m ≤ reachBytes := fun m hm => hw m (by
        simp only [DataW.weights, Try.underlying32, List.map_cons, List.map_nil, DataW.weightsEach, List.mem_append]
        exact .inr (.inr (.inr (.inr (.inl hm)))))
      obtain ⟨k, e0, _, _⟩ := DataW.trod_int Try.underlying29 h0
      obtain ⟨i, e1, _, _⟩ := DataW.trod_int Try.underlying2 h1
      obtain ⟨m, e2, _, _⟩ := DataW.trod_int Try.underlying2 h2
      obtain ⟨s, e3, hs, _⟩ := DataW.trod_string Try.underlying9 h3
      obtain ⟨A, l, c, e4, hl, _, hr, hbl⟩ := open_rowsU vEl bulkV Try.underlying30 cellsV bytesV (fun n' cs' y hn' => ih n' (by omega) cs' y) h4 hw4
      have hsz : s.size ≤ 140737488355328 := by
        have := hw' s.data.toList.length (by rw [hs]; simp [DataW.weights])
        rw [reach_eq] at this
        simp at this
        omega
      obtain rfl := one_of e0
      obtain rfl := one_of e1
      obtain rfl := one_of e2
      obtain rfl := one_of e3
      obtain rfl := one_of e4
      refine ⟨.mk k i m s l, (Val.Rd_iff _ _ _ _ _ _ _ _ _).2 ⟨A, c, rfl, hsz, hl, hr⟩, ?_⟩
      have hb3 : s.size ≤ Rows.uptoBulk y3.1 := by rw [hs]; exact str_bulk s
      rw [bulkV, bulkL_sum]
      simp only [List.map_cons, List.map_nil, Rows.uptoBulk, Rows.uptoBulkAll]
      omega
set_option maxRecDepth 100000 in
theorem open_evU (fuel : Nat) (cs : List Value) (x : DataW H × List MemPlace) (h : DataW.trod enc Try.prog w 0 (fun _ => true) true fuel 37 cs = some x) (hw : ∀ m ∈ x.1.weights Try.prog 37, m ≤ reachBytes) : ∃ v, eEl.R 0 w.heap.size w v cs ∧ bulkE v ≤ Rows.uptoBulk x.1 := by
  obtain ⟨ys, n, rfl, rfl, hlen, hyl, hf⟩ := DataW.trod_struct Try.underlying37 h
  rw [cellsE] at hlen
  match ys, hyl, cs, hlen with
  | [y0, y1, y2, y3, y4, y5], _, [c0, c1, c2, c3, c4, c5, c6, c7, c8, c9, c10, c11], _ =>
    have h0 := hf 0 _ rfl
    have h1 := hf 1 _ rfl
    have h2 := hf 2 _ rfl
    have h3 := hf 3 _ rfl
    have h4 := hf 4 _ rfl
    have h5 := hf 5 _ rfl
    simp only [cellsEK, cellsStr, cellsV, cellsP, List.drop_zero, List.drop_succ_cons, List.take_succ_cons, List.take_zero, List.getElem?_cons_zero, List.getElem?_cons_succ] at h0 h1 h2 h3 h4 h5
    have hwj : ∀ m, (m ∈ y1.1.weights Try.prog 9 ∨ m ∈ y2.1.weights Try.prog 9 ∨ m ∈ y3.1.weights Try.prog 9 ∨ m ∈ y4.1.weights Try.prog 32) → m ≤ reachBytes := fun m hm => hw m (by
      simp only [DataW.weights, Try.underlying37, List.map_cons, List.map_nil, DataW.weightsEach, List.mem_append]
      rcases hm with hm | hm | hm | hm
      · exact .inr (.inl hm)
      · exact .inr (.inr (.inl hm))
      · exact .inr (.inr (.inr (.inl hm)))
      · exact .inr (.inr (.inr (.inr (.inl hm)))))
    obtain ⟨k, e0, _, _⟩ := DataW.trod_int Try.underlying33 h0
    obtain ⟨p, e1, hp, _⟩ := DataW.trod_string Try.underlying9 h1
    obtain ⟨o, e2, ho, _⟩ := DataW.trod_string Try.underlying9 h2
    obtain ⟨q, e3, hq, _⟩ := DataW.trod_string Try.underlying9 h3
    obtain ⟨v, hv, hbv⟩ := open_valU n _ _ h4 (fun m hm => hwj m (.inr (.inr (.inr hm))))
    obtain ⟨zs, n', _, _, _, hzl, hg⟩ := DataW.trod_struct Try.underlying35 h5
    have sz : ∀ (s : ByteArray) (y : DataW H × List MemPlace), y = (.lit (.string s.data.toList), []) → (∀ m ∈ y.1.weights Try.prog 9, m ≤ reachBytes) → s.size ≤ 140737488355328 := by
      intro s y hs h
      have := h s.data.toList.length (by rw [hs]; simp [DataW.weights])
      rw [reach_eq] at this
      simp at this
      omega
    match zs, hzl with
    | [z0, z1, z2], _ =>
      have g0 := hg 0 _ rfl
      have g1 := hg 1 _ rfl
      have g2 := hg 2 _ rfl
      simp only [cellsInt, List.drop_zero, List.drop_succ_cons, List.take_succ_cons, List.take_zero, List.getElem?_cons_zero, List.getElem?_cons_succ] at g0 g1 g2
      obtain ⟨a, f0, _, _⟩ := DataW.trod_int Try.underlying3 g0
      obtain ⟨b, f1, _, _⟩ := DataW.trod_int Try.underlying3 g1
      obtain ⟨c, f2, _, _⟩ := DataW.trod_int Try.underlying3 g2
      obtain ⟨Av, cv, hvo, hvc⟩ := VOk.of hv
      obtain rfl := one_of e0
      obtain rfl := one_of e1
      obtain rfl := one_of e2
      obtain rfl := one_of e3
      obtain rfl := one_of f0
      obtain rfl := one_of f1
      obtain rfl := one_of f2
      cases hvc
      have hs1 : ∀ (s : ByteArray) (y : DataW H × List MemPlace), y = (.lit (.string s.data.toList), []) → s.size ≤ Rows.uptoBulk y.1 := fun s y h => by rw [h]; exact str_bulk s
      have hb1 := hs1 p y1 hp
      have hb2 := hs1 o y2 ho
      have hb3 := hs1 q y3 hq
      refine ⟨⟨k, p, o, q, v, a, b, c⟩, ⟨Av, cv, ⟨hvo, sz p y1 hp (fun m hm => hwj m (.inl hm)), sz o y2 ho (fun m hm => hwj m (.inr (.inl hm))), sz q y3 hq (fun m hm => hwj m (.inr (.inr (.inl hm))))⟩, rfl⟩, ?_⟩
      rw [bulkE]
      simp only [List.map_cons, List.map_nil, Rows.uptoBulk, Rows.uptoBulkAll]
      omega
/-- An argument that is a row of events. -/
theorem open_eventsU {v : Value} {d : DataW H} {p : List MemPlace} (h : DataW.Trod enc Try.prog w 0 (fun _ => true) true 22 v d p) (hw : ∀ m ∈ d.weights Try.prog 22, m ≤ reachBytes) (hv : v.cells.toList = [v]) :
    ∃ A l c, v = .slice A l.length c ∧ l.length ≤ c ∧ c * 144 ≤ 140737488351232 ∧ Row eEl 0 w.heap.size w A l ∧ (l.map bulkE).sum ≤ Rows.uptoBulk d := by
  obtain ⟨fuel, hf⟩ := h
  obtain ⟨A, l, c, hc, h1, h2, h3, h4⟩ := open_rowsU eEl bulkE Try.underlying22 cellsE bytesE (fun n cs y _ h hw => open_evU n cs y h hw) hf hw
  rw [hv] at hc
  exact ⟨A, l, c, one_of hc, h1, h2, h3, h4⟩
end
end Go.Proofs.Ytifakbipdmceiaa
