import Derived.Test.YtifakbipdmceiaaJLawA9
import Derived.ChangeArms
import Derived.ChangeSame
import Derived.DataReads
import GoSem.ClaimJoined
set_option linter.unusedVariables false
set_option linter.unusedSimpArgs false
namespace Go.Proofs.Ytifakbipdmceiaa
open Go.RowKit Go.ChangeShapes Go.WideShapes

/-! ### arguments, opened -/
theorem pick_list {α : Type} {p : Nat → α → Prop} : ∀ (n : Nat), (∀ i, i < n → ∃ v, p i v) → ∃ xs : List α, xs.length = n ∧ ∀ i v, xs[i]? = some v → p i v
  | 0, _ => ⟨[], rfl, fun i v h => by cases h⟩
  | n + 1, h => by
    obtain ⟨xs, hl, hx⟩ := pick_list n (fun i hi => h i (by omega))
    obtain ⟨v, hv⟩ := h n (Nat.lt_succ_self n)
    refine ⟨xs ++ [v], by simp [hl], fun i u hu => ?_⟩
    rcases Nat.lt_or_ge i n with h1 | h1
    · rw [List.getElem?_append_left (by omega)] at hu; exact hx i u hu
    · rw [List.getElem?_append_right (by omega), hl] at hu
      rcases Nat.eq_or_lt_of_le h1 with rfl | h2
      · simp at hu; subst hu; exact hv
      · rw [List.getElem?_eq_none (by simp; omega)] at hu; cases hu
section
variable {H : Type} {enc : TypeId × Value → H} {w : World}
theorem weightsAll_mem {P : Program} {e : TypeId} : ∀ {l : List (DataW H)} {d : DataW H}, d ∈ l → ∀ n ∈ d.weights P e, n ∈ DataW.weightsAll P e l
  | x :: xs, d, hd, n, hn => by
    rw [DataW.weightsAll]
    rcases List.mem_cons.1 hd with rfl | h
    · exact List.mem_append.2 (.inl hn)
    · exact List.mem_append.2 (.inr (weightsAll_mem h n hn))
theorem bytesV : Try.prog.bytesOf 32 = 64 := by kernel_rfl
theorem bytesE : Try.prog.bytesOf 37 = 144 := by kernel_rfl
theorem cellsV : Try.prog.cellsOf 32 = 5 := by kernel_rfl
theorem cellsE : Try.prog.cellsOf 37 = 12 := by kernel_rfl
theorem cellsP : Try.prog.cellsOf 35 = 3 := by kernel_rfl
theorem cellsK : Try.prog.cellsOf 29 = 1 := by kernel_rfl
theorem cellsEK : Try.prog.cellsOf 33 = 1 := by kernel_rfl
theorem cellsI64 : Try.prog.cellsOf 2 = 1 := by kernel_rfl
theorem cellsInt : Try.prog.cellsOf 3 = 1 := by kernel_rfl
theorem cellsStr : Try.prog.cellsOf 9 = 1 := by kernel_rfl
theorem cellsVs : Try.prog.cellsOf 30 = 1 := by kernel_rfl
theorem reach_eq : reachBytes = 140737488351232 := by decide
theorem at_none {a : Addr} {w : World} {u : Value} (h : w.cell? a = some u) : ∃ b o, a = ⟨b, o, none⟩ ∧ b < w.heap.size := by
  obtain ⟨b, o, sp⟩ := a
  rw [World.cell?] at h
  cases ho : w.heap[b]? with
  | none => rw [show w.heap[(⟨b, o, sp⟩ : Addr).block]? = none from ho] at h; cases h
  | some ob =>
    rw [show w.heap[(⟨b, o, sp⟩ : Addr).block]? = some ob from ho] at h
    cases sp with
    | none => exact ⟨b, o, rfl, (Array.getElem?_eq_some_iff.1 ho).1⟩
    | some s => cases ob <;> simp at h
theorem add_zero' (a : Addr) : a.add 0 = a := by simp [Addr.add]
theorem add_none (b o k : Nat) : (⟨b, o, none⟩ : Addr).add k = ⟨b, o + k, none⟩ := by unfold Addr.add; split <;> simp_all

/-- A slice whose elements have each a reading. -/
theorem open_rows {α : Type} (E : El α) {t e : TypeId} {fuel : Nat} {cs : List Value} {x : DataW H × List MemPlace} (ht : Try.prog.underlying t = some (.slice e)) (hC : Try.prog.cellsOf e = E.sz) (hB : Try.prog.bytesOf e = E.by_)
    (hE : ∀ n cs' y, n < fuel → DataW.trod enc Try.prog w 0 (fun _ => true) true n e cs' = some y → (∀ m ∈ y.1.weights Try.prog e, m ≤ reachBytes) → ∃ v, E.R 0 w.heap.size w v cs')
    (h : DataW.trod enc Try.prog w 0 (fun _ => true) true fuel t cs = some x) (hw : ∀ m ∈ x.1.weights Try.prog t, m ≤ reachBytes) :
    ∃ A l c, cs = [.slice A l.length c] ∧ l.length ≤ c ∧ c * E.by_ ≤ 140737488351232 ∧ Row E 0 w.heap.size w A l := by
  rcases DataW.trod_slice ht h with ⟨rfl, rfl⟩ | ⟨a, len, cap, elems, rest, n, hn, rfl, rfl, _, hl, hm, hlen, hel, hsp, _⟩
  · exact ⟨none, [], 0, rfl, Nat.le_refl _, by simp, Row.nil _ _ _ _ _⟩
  · have hrl := (hsp rfl).1
    have h1 : (elems.length + rest.length) * E.by_ ≤ reachBytes := by
      have := hw ((elems.length + rest.length) * E.by_) (by simp [DataW.weights, ht, hB])
      exact this
    have hall : ∀ y ∈ elems, ∀ m ∈ y.1.weights Try.prog e, m ≤ reachBytes := by
      intro y hy m hm'
      refine hw m ?_
      simp only [DataW.weights, ht, List.mem_cons, List.mem_append]
      exact .inr (.inl (weightsAll_mem (List.mem_map.2 ⟨y, hy, rfl⟩) m hm'))
    rw [reach_eq] at h1
    have hcap : elems.length + rest.length = cap := by omega
    rw [hcap] at h1
    rcases Nat.eq_zero_or_pos len with h0 | hpos
    · subst h0
      exact ⟨some a, [], cap, rfl, Nat.zero_le _, h1, Row.nil _ _ _ _ _⟩
    · have hcell : ∀ i, i < len → ∃ cs', (w.cells? 0 (a.add (i * E.sz)) E.sz) = some cs' ∧ ∃ v, E.R 0 w.heap.size w v cs' := by
        intro i hi
        have := hel i hi
        rw [hC, show elems[i]? = some elems[i] by simp [hlen, hi]] at this
        obtain ⟨cs', hc, ht'⟩ := Option.bind_eq_some_iff.1 this
        exact ⟨cs', hc, hE n cs' _ (by omega) ht' (hall _ (List.getElem_mem _))⟩
      obtain ⟨b, o, rfl, hbs⟩ : ∃ b o, a = ⟨b, o, none⟩ ∧ b < w.heap.size := by
        obtain ⟨cs', hc, _⟩ := hcell 0 hpos
        obtain ⟨_, hcl, hat⟩ := World.cells?_some hc
        have := hat 0 E.pos
        rw [Nat.zero_mul] at this
        have hp := E.pos
        have e0 : cs'[0]? = some (cs'[0]'(by omega)) := List.getElem?_eq_getElem (by omega)
        rw [e0, add_zero', add_zero'] at this
        exact at_none this
      obtain ⟨xs, hxl, hx⟩ := pick_list (p := fun i v => ∃ cs', (w.cells? 0 ((⟨b, o, none⟩ : Addr).add (i * E.sz)) E.sz) = some cs' ∧ E.R 0 w.heap.size w v cs') len (fun i hi => by
        obtain ⟨cs', h2, v, h3⟩ := hcell i hi
        exact ⟨v, cs', h2, h3⟩)
      refine ⟨some ⟨b, o, none⟩, xs, cap, by rw [hxl], by rw [hxl]; exact hl, h1, ?_, fun _ => ⟨b, o, rfl, Nat.zero_le _, hbs, fun j v hj => ?_⟩⟩
      · rw [hxl]
        have := Nat.mul_le_mul_right E.by_ hl
        omega
      · obtain ⟨cs', h2, h3⟩ := hx j v hj
        refine ⟨cs', h3, fun i u hu => ?_⟩
        obtain ⟨_, hcl, hat⟩ := World.cells?_some h2
        have hi : i < E.sz := by
          rcases Nat.lt_or_ge i E.sz with h | h
          · exact h
          · rw [List.getElem?_eq_none (by omega)] at hu; cases hu
        have := hat i hi
        rw [add_none, add_none] at this
        rw [this, hu]

theorem one_of {c : Value} {u : Value} (h : [c] = [u]) : c = u := by simpa using h
set_option maxRecDepth 100000 in
theorem open_val (fuel : Nat) : ∀ (cs : List Value) (x : DataW H × List MemPlace), DataW.trod enc Try.prog w 0 (fun _ => true) true fuel 32 cs = some x → (∀ m ∈ x.1.weights Try.prog 32, m ≤ reachBytes) → ∃ v, Val.Rd 0 w.heap.size w v cs := by
  induction fuel using Nat.strongRecOn with
  | ind fuel ih =>
    intro cs x h hw
    obtain ⟨ys, n, rfl, rfl, hlen, hyl, hf⟩ := DataW.trod_struct Try.underlying32 h
    rw [cellsV] at hlen
    match ys, hyl, cs, hlen with
    | [y0, y1, y2, y3, y4], _, [c0, c1, c2, c3, c4], _ =>
      have h0 := hf 0 _ rfl
      have h1 := hf 1 _ rfl
      have h2 := hf 2 _ rfl
      have h3 := hf 3 _ rfl
      have h4 := hf 4 _ rfl
      simp only [cellsK, cellsI64, cellsStr, cellsVs, List.drop_zero, List.drop_succ_cons, List.take_succ_cons, List.take_zero, List.getElem?_cons_zero, List.getElem?_cons_succ] at h0 h1 h2 h3 h4
      have hw' : ∀ m ∈ y3.1.weights Try.prog 9, m ≤ reachBytes := fun m hm => hw m (by
        simp only [DataW.weights, Try.underlying32, List.map_cons, List.map_nil, DataW.weightsEach, List.mem_append]
        exact .inr (.inr (.inr (.inl hm))))
      have hw4 : ∀ m ∈ y4.1.weights Try.prog 30, m ≤ reachBytes := fun m hm => hw m (by
        simp only [DataW.weights, Try.underlying32, List.map_cons, List.map_nil, DataW.weightsEach, List.mem_append]
        exact .inr (.inr (.inr (.inr (.inl hm)))))
      obtain ⟨k, e0, _, _⟩ := DataW.trod_int Try.underlying29 h0
      obtain ⟨i, e1, _, _⟩ := DataW.trod_int Try.underlying2 h1
      obtain ⟨m, e2, _, _⟩ := DataW.trod_int Try.underlying2 h2
      obtain ⟨s, e3, hs, _⟩ := DataW.trod_string Try.underlying9 h3
      obtain ⟨A, l, c, e4, hl, _, hr⟩ := open_rows vEl Try.underlying30 cellsV bytesV (fun n' cs' y hn' => ih n' (by omega) cs' y) h4 hw4
      have hsz : s.size ≤ 140737488355328 := by
        have := hw' s.data.toList.length (by rw [hs]; simp [DataW.weights])
        rw [reach_eq] at this
        simp at this
        omega
      obtain rfl := one_of e0
      obtain rfl := one_of e1
      obtain rfl := one_of e2
      obtain rfl := one_of e3
      obtain rfl := one_of e4
      exact ⟨.mk k i m s l, (Val.Rd_iff _ _ _ _ _ _ _ _ _).2 ⟨A, c, rfl, hsz, hl, hr⟩⟩
set_option maxRecDepth 100000 in
theorem open_ev (fuel : Nat) (cs : List Value) (x : DataW H × List MemPlace) (h : DataW.trod enc Try.prog w 0 (fun _ => true) true fuel 37 cs = some x) (hw : ∀ m ∈ x.1.weights Try.prog 37, m ≤ reachBytes) : ∃ v, eEl.R 0 w.heap.size w v cs := by
  obtain ⟨ys, n, rfl, rfl, hlen, hyl, hf⟩ := DataW.trod_struct Try.underlying37 h
  rw [cellsE] at hlen
  match ys, hyl, cs, hlen with
  | [y0, y1, y2, y3, y4, y5], _, [c0, c1, c2, c3, c4, c5, c6, c7, c8, c9, c10, c11], _ =>
    have h0 := hf 0 _ rfl
    have h1 := hf 1 _ rfl
    have h2 := hf 2 _ rfl
    have h3 := hf 3 _ rfl
    have h4 := hf 4 _ rfl
    have h5 := hf 5 _ rfl
    simp only [cellsEK, cellsStr, cellsV, cellsP, List.drop_zero, List.drop_succ_cons, List.take_succ_cons, List.take_zero, List.getElem?_cons_zero, List.getElem?_cons_succ] at h0 h1 h2 h3 h4 h5
    have hwj : ∀ m, (m ∈ y1.1.weights Try.prog 9 ∨ m ∈ y2.1.weights Try.prog 9 ∨ m ∈ y3.1.weights Try.prog 9 ∨ m ∈ y4.1.weights Try.prog 32) → m ≤ reachBytes := fun m hm => hw m (by
      simp only [DataW.weights, Try.underlying37, List.map_cons, List.map_nil, DataW.weightsEach, List.mem_append]
      rcases hm with hm | hm | hm | hm
      · exact .inr (.inl hm)
      · exact .inr (.inr (.inl hm))
      · exact .inr (.inr (.inr (.inl hm)))
      · exact .inr (.inr (.inr (.inr (.inl hm)))))
    obtain ⟨k, e0, _, _⟩ := DataW.trod_int Try.underlying33 h0
    obtain ⟨p, e1, hp, _⟩ := DataW.trod_string Try.underlying9 h1
    obtain ⟨o, e2, ho, _⟩ := DataW.trod_string Try.underlying9 h2
    obtain ⟨q, e3, hq, _⟩ := DataW.trod_string Try.underlying9 h3
    obtain ⟨v, hv⟩ := open_val n _ _ h4 (fun m hm => hwj m (.inr (.inr (.inr hm))))
    obtain ⟨zs, n', _, _, _, hzl, hg⟩ := DataW.trod_struct Try.underlying35 h5
    have sz : ∀ (s : ByteArray) (y : DataW H × List MemPlace), y = (.lit (.string s.data.toList), []) → (∀ m ∈ y.1.weights Try.prog 9, m ≤ reachBytes) → s.size ≤ 140737488355328 := by
      intro s y hs h
      have := h s.data.toList.length (by rw [hs]; simp [DataW.weights])
      rw [reach_eq] at this
      simp at this
      omega
    match zs, hzl with
    | [z0, z1, z2], _ =>
      have g0 := hg 0 _ rfl
      have g1 := hg 1 _ rfl
      have g2 := hg 2 _ rfl
      simp only [cellsInt, List.drop_zero, List.drop_succ_cons, List.take_succ_cons, List.take_zero, List.getElem?_cons_zero, List.getElem?_cons_succ] at g0 g1 g2
      obtain ⟨a, f0, _, _⟩ := DataW.trod_int Try.underlying3 g0
      obtain ⟨b, f1, _, _⟩ := DataW.trod_int Try.underlying3 g1
      obtain ⟨c, f2, _, _⟩ := DataW.trod_int Try.underlying3 g2
      obtain ⟨Av, cv, hvo, hvc⟩ := VOk.of hv
      obtain rfl := one_of e0
      obtain rfl := one_of e1
      obtain rfl := one_of e2
      obtain rfl := one_of e3
      obtain rfl := one_of f0
      obtain rfl := one_of f1
      obtain rfl := one_of f2
      cases hvc
      exact ⟨⟨k, p, o, q, v, a, b, c⟩, Av, cv, ⟨hvo, sz p y1 hp (fun m hm => hwj m (.inl hm)), sz o y2 ho (fun m hm => hwj m (.inr (.inl hm))), sz q y3 hq (fun m hm => hwj m (.inr (.inr (.inl hm))))⟩, rfl⟩
/-- An argument that is a row of events. -/
theorem open_events {v : Value} {d : DataW H} {p : List MemPlace} (h : DataW.Trod enc Try.prog w 0 (fun _ => true) true 22 v d p) (hw : ∀ m ∈ d.weights Try.prog 22, m ≤ reachBytes) (hv : v.cells.toList = [v]) :
    ∃ A l c, v = .slice A l.length c ∧ l.length ≤ c ∧ c * 144 ≤ 140737488351232 ∧ Row eEl 0 w.heap.size w A l := by
  obtain ⟨fuel, hf⟩ := h
  obtain ⟨A, l, c, hc, h1, h2, h3⟩ := open_rows eEl Try.underlying22 cellsE bytesE (fun n cs y _ h hw => open_ev n cs y h hw) hf hw
  rw [hv] at hc
  exact ⟨A, l, c, one_of hc, h1, h2, h3⟩
end
end Go.Proofs.Ytifakbipdmceiaa
