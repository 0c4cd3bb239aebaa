import Derived.Test.YtifakbipdmceiaaJLaw330
set_option linter.unusedVariables false
set_option linter.unusedSimpArgs false
namespace Go.Proofs.Ytifakbipdmceiaa
open Go.RowKit

/-! ### a row of events that is written all over: what stays -/
def Smear (M n : Nat) (A : Option Addr) (F : Nat → Option Addr × Nat × Nat) (w : World) : Prop :=
  ∀ j, j < n → ∃ g o cur t, A = some ⟨g, o, none⟩ ∧ M ≤ g ∧ w.heap[g]? = some (.cells cur t (0, 0)) ∧ o + n * 12 ≤ cur.size ∧ cur[o + j * 12 + 8]? = some (.slice (F j).1 (F j).2.1 (F j).2.2) ∧ (F j).2.1 * 64 ≤ 140737488355328 ∧
    ((F j).2.1 = 0 ∨ ∃ b p cur' t', (F j).1 = some ⟨b, p, none⟩ ∧ M ≤ b ∧ b ≠ g ∧ w.heap[b]? = some (.cells cur' t' (0, 0)) ∧ p + (F j).2.1 * 5 ≤ cur'.size)
theorem cells_set {w : World} {b : Nat} {cur : Array Value} {t : TypeId} (h : w.heap[b]? = some (.cells cur t (0, 0))) (g q : Nat) (v : Value) : ∃ cur', (w.setCell ⟨g, q, none⟩ v).heap[b]? = some (.cells cur' t (0, 0)) ∧ cur'.size = cur.size := by
  by_cases hb : b = g
  · subst hb
    exact ⟨_, box_set h q v, by simp⟩
  · exact ⟨cur, box_far h (a := ⟨g, q, none⟩) hb v, rfl⟩
section
variable {M n : Nat} {A : Option Addr} {F : Nat → Option Addr × Nat × Nat} {w : World}
theorem Smear.at (h : Smear M n A F w) {j : Nat} (hj : j < n) : ∃ g o u, A = some ⟨g, o, none⟩ ∧ M ≤ g ∧ g < w.heap.size ∧ w.cell? ⟨g, o + j * 12 + 8, none⟩ = some (.slice (F j).1 (F j).2.1 (F j).2.2) ∧ w.cell? ⟨g, o + j * 12 + 1, none⟩ = some u ∧ w.frozen? ⟨g, o + j * 12 + 1, none⟩ = false ∧ (F j).2.1 * 64 ≤ 140737488355328 := by
  obtain ⟨g, o, cur, t, h1, h2, h3, h4, h5, h6, _⟩ := h j hj
  have hlt : o + j * 12 + 1 < cur.size := by omega
  exact ⟨g, o, cur[o + j * 12 + 1], h1, h2, box_lt h3, (box_cells h3 _).trans h5, (box_cells h3 _).trans (by simp [hlt]), box_free h3 _, h6⟩
theorem Smear.item (h : Smear M n A F w) {j k : Nat} (hj : j < n) (hk : k < (F j).2.1) : ∃ b p u0 u1 u2 u3 u4, (F j).1 = some ⟨b, p, none⟩ ∧ M ≤ b ∧ b < w.heap.size ∧ w.cell? ⟨b, p + k * 5, none⟩ = some u0 ∧ w.cell? ⟨b, p + k * 5 + 1, none⟩ = some u1 ∧ w.cell? ⟨b, p + k * 5 + 2, none⟩ = some u2 ∧ w.cell? ⟨b, p + k * 5 + 3, none⟩ = some u3 ∧ w.cell? ⟨b, p + k * 5 + 4, none⟩ = some u4 ∧ ∀ i, w.frozen? ⟨b, i, none⟩ = false := by
  obtain ⟨g, o, cur, t, h1, h2, h3, h4, h5, h6, h7⟩ := h j hj
  rcases h7 with h7 | ⟨b, p, cur', t', k1, k2, k3, k4, k5⟩
  · omega
  · have hlt : ∀ i, i < 5 → p + k * 5 + i < cur'.size := fun i hi => by omega
    exact ⟨b, p, cur'[p + k * 5]'(hlt 0 (by omega)), cur'[p + k * 5 + 1]'(hlt 1 (by omega)), cur'[p + k * 5 + 2]'(hlt 2 (by omega)), cur'[p + k * 5 + 3]'(hlt 3 (by omega)), cur'[p + k * 5 + 4]'(hlt 4 (by omega)), k1, k2, box_lt k4,
      (box_cells k4 _).trans (Array.getElem?_eq_getElem (hlt 0 (by omega))), (box_cells k4 _).trans (Array.getElem?_eq_getElem (hlt 1 (by omega))), (box_cells k4 _).trans (Array.getElem?_eq_getElem (hlt 2 (by omega))),
      (box_cells k4 _).trans (Array.getElem?_eq_getElem (hlt 3 (by omega))), (box_cells k4 _).trans (Array.getElem?_eq_getElem (hlt 4 (by omega))), fun i => box_free k4 i⟩
theorem Smear.setI (h : Smear M n A F w) {j : Nat} (hj : j < n) {b p : Nat} (hb : (F j).1 = some ⟨b, p, none⟩) (hm : 0 < (F j).2.1) (q : Nat) (v : Value) : Smear M n A F (w.setCell ⟨b, q, none⟩ v) := by
  have hbg : ∀ g o, A = some ⟨g, o, none⟩ → g ≠ b := by
    intro g o hA
    obtain ⟨g', o', cur, t, h1, _, _, _, _, _, h7⟩ := h j hj
    rw [hA] at h1
    cases h1
    rcases h7 with h7 | ⟨b', p', cur', t', k1, k2, k3, _⟩
    · omega
    · rw [hb] at k1; cases k1; exact fun e => k3 e.symm
  intro i hi
  obtain ⟨g, o, cur, t, h1, h2, h3, h4, h5, h6, h7⟩ := h i hi
  refine ⟨g, o, cur, t, h1, h2, box_far h3 (a := ⟨b, q, none⟩) (hbg g o h1) v, h4, h5, h6, ?_⟩
  rcases h7 with h7 | ⟨b', p', cur', t', k1, k2, k3, k4, k5⟩
  · exact .inl h7
  · obtain ⟨cur2, e1, e2⟩ := cells_set k4 b q v
    exact .inr ⟨b', p', cur2, t', k1, k2, k3, e1, by omega⟩
theorem Smear.setP (h : Smear M n A F w) {g o : Nat} (hA : A = some ⟨g, o, none⟩) (i : Nat) (v : Value) : Smear M n A F (w.setCell ⟨g, o + i * 12 + 1, none⟩ v) := by
  intro j hj
  obtain ⟨g', o', cur, t, h1, h2, h3, h4, h5, h6, h7⟩ := h j hj
  rw [hA] at h1
  cases h1
  refine ⟨g, o, _, t, hA, h2, box_set h3 (o + i * 12 + 1) v, by simpa using h4, ?_, h6, ?_⟩
  · rw [Array.getElem?_setIfInBounds_ne (by omega)]; exact h5
  · rcases h7 with h7 | ⟨b', p', cur', t', k1, k2, k3, k4, k5⟩
    · exact .inl h7
    · exact .inr ⟨b', p', cur', t', k1, k2, k3, box_far k4 (a := ⟨g, _, none⟩) k3 v, k5⟩
theorem Smear.below (h : Smear M n A F w) {w1 : World} (hb : Below w.heap.size w w1) : Smear M n A F w1 := by
  intro j hj
  obtain ⟨g, o, cur, t, h1, h2, h3, h4, h5, h6, h7⟩ := h j hj
  refine ⟨g, o, cur, t, h1, h2, hb.box h3 (box_lt h3), h4, h5, h6, ?_⟩
  rcases h7 with h7 | ⟨b', p', cur', t', k1, k2, k3, k4, k5⟩
  · exact .inl h7
  · exact .inr ⟨b', p', cur', t', k1, k2, k3, hb.box k4 (box_lt k4), k5⟩
theorem Smear.atF (h : Smear M n A F w) {j : Nat} (hj : j < n) {A' : Option Addr} {m c : Nat} (hF : F j = (A', m, c)) : ∃ g o u, A = some ⟨g, o, none⟩ ∧ M ≤ g ∧ g < w.heap.size ∧ w.cell? ⟨g, o + j * 12 + 8, none⟩ = some (.slice A' m c) ∧ w.cell? ⟨g, o + j * 12 + 1, none⟩ = some u ∧ w.frozen? ⟨g, o + j * 12 + 1, none⟩ = false ∧ m * 64 ≤ 140737488355328 := by
  have := h.at hj
  rw [hF] at this
  exact this
theorem Smear.itemF (h : Smear M n A F w) {j k : Nat} (hj : j < n) {A' : Option Addr} {m c : Nat} (hF : F j = (A', m, c)) (hk : k < m) : ∃ b p u0 u1 u2 u3 u4, A' = some ⟨b, p, none⟩ ∧ M ≤ b ∧ b < w.heap.size ∧ w.cell? ⟨b, p + k * 5, none⟩ = some u0 ∧ w.cell? ⟨b, p + k * 5 + 1, none⟩ = some u1 ∧ w.cell? ⟨b, p + k * 5 + 2, none⟩ = some u2 ∧ w.cell? ⟨b, p + k * 5 + 3, none⟩ = some u3 ∧ w.cell? ⟨b, p + k * 5 + 4, none⟩ = some u4 ∧ ∀ i, w.frozen? ⟨b, i, none⟩ = false := by
  have := h.item (k := k) hj (by rw [hF]; exact hk)
  rw [hF] at this
  exact this
theorem Smear.setF (h : Smear M n A F w) {j : Nat} (hj : j < n) {b p m c : Nat} (hF : F j = (some ⟨b, p, none⟩, m, c)) (hm : 0 < m) (q : Nat) (v : Value) : Smear M n A F (w.setCell ⟨b, q, none⟩ v) :=
  h.setI (p := p) hj (by rw [hF]) (by rw [hF]; exact hm) q v
end
theorem Own.smear {e : TypeId} {M N c : Nat} {w : World} {A : Option Addr} {xs : List Ev} (h : Own tEl e M N w (.slice A xs.length c) xs) : ∃ F, Smear M xs.length A F w := by
  obtain ⟨hN, hl, cs, S, ⟨hcl, hrow⟩, h3, h4, h5⟩ := h
  rcases hrow with ⟨_, h0⟩ | ⟨g, cap, cur, hv, hb, hg, hn, _, hcs, hxs⟩
  · exact ⟨fun _ => (none, 0, 0), fun j hj => by omega⟩
  · obtain ⟨rfl, rfl⟩ : A = some ⟨g, 0, none⟩ ∧ c = cap := by simpa using hv
    have hS := (h3 g rfl).2
    have hw : ∀ b, S b → ({ w with heap := w.heap.setIfInBounds g (.cells #[] e (0, 0)) } : World).heap[b]? = w.heap[b]? := by
      intro b hb'
      have : g ≠ b := by rintro rfl; exact hS hb'
      simp [Array.getElem?_setIfInBounds_ne this]
    have hC := h5 _ hw
    have key : ∀ j, ∃ f : Option Addr × Nat × Nat, j < xs.length → (cur[0 + j * 12 + 8]? = some (.slice f.1 f.2.1 f.2.2) ∧ f.2.1 * 64 ≤ 140737488355328 ∧ (f.2.1 = 0 ∨ ∃ b p cur' t', f.1 = some ⟨b, p, none⟩ ∧ M ≤ b ∧ b ≠ g ∧ w.heap[b]? = some (.cells cur' t' (0, 0)) ∧ p + f.2.1 * 5 ≤ cur'.size)) := by
      intro j
      by_cases hj : j < xs.length
      · obtain ⟨A', c', hE, hcell, hT⟩ := hC.2 j xs[j] (by simp [hj])
        refine ⟨(A', xs[j].v.items.length, c'), fun _ => ⟨?_, hE.v.len, ?_⟩⟩
        · have h8 : ((cs.drop (j * 12)).take 12)[8]? = some (.slice A' xs[j].v.items.length c') := by
            rw [show ((cs.drop (j * 12)).take 12) = _ from hcell]; rfl
          rw [List.getElem?_take_of_lt (by decide), List.getElem?_drop, ← hxs] at h8
          rw [List.getElem?_take_of_lt (by show _ < xs.length * 12; omega), Array.getElem?_toList] at h8
          rw [Nat.zero_add]
          exact h8
        · rcases hT with hT | ⟨b, cur', t', k1, k2, k3, k4, k5⟩
          · exact .inl hT
          · by_cases hbg : b = g
            · subst hbg
              have hlt := box_lt hg
              rw [show ({ w with heap := w.heap.setIfInBounds b (.cells #[] e (0, 0)) } : World).heap[b]? = some (.cells #[] e (0, 0)) by simp [hlt]] at k4
              cases k4
              exact .inl (by show xs[j].v.items.length = 0; have h9 : xs[j].v.items.length * 5 ≤ 0 := k5; omega)
            · refine .inr ⟨b, 0, cur', t', k1, k2, hbg, ?_, by simpa using k5⟩
              rw [← k4]
              simp [Array.getElem?_setIfInBounds_ne (fun e => hbg e.symm)]
      · exact ⟨(none, 0, 0), fun h => absurd h hj⟩
    obtain ⟨F, hF⟩ := Classical.skolem.1 key
    refine ⟨F, fun j hj => ⟨g, 0, cur, e, rfl, hb, hg, ?_, (hF j hj).1, (hF j hj).2⟩⟩
    rw [hcs, Nat.zero_add]
    exact Nat.mul_le_mul_right _ hn
end Go.Proofs.Ytifakbipdmceiaa
