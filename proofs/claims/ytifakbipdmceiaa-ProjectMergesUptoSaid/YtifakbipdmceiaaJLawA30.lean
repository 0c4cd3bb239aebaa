import Derived.Test.YtifakbipdmceiaaJLawA29
import Derived.Test.YtifakbipdmceiaaJLawA17
import Derived.Laws.OwnMore
set_option linter.unusedVariables false
set_option linter.unusedSimpArgs false
namespace Go.Proofs.Ytifakbipdmceiaa
open Go.RowKit

/-! ### the interleavings -/
def mergesN {α : Type} (p : List α) : Nat → List α → List α → List (List α)
  | 0, _, _ => [p]
  | n + 1, x :: xs, [] => mergesN (p ++ [x]) n xs []
  | n + 1, [], y :: ys => mergesN (p ++ [y]) n [] ys
  | n + 1, x :: xs, y :: ys => mergesN (p ++ [x]) n xs (y :: ys) ++ mergesN (p ++ [y]) n (x :: xs) ys
  | _ + 1, [], [] => [p]
def mergesL {α : Type} (p : List α) (x y : List α) : List (List α) := mergesN p (x.length + y.length) x y
theorem mergesL_nil {α : Type} (p : List α) : mergesL p [] [] = [p] := rfl
theorem mergesL_left {α : Type} (p : List α) (x : α) (xs : List α) : mergesL p (x :: xs) [] = mergesL (p ++ [x]) xs [] := by
  simp [mergesL, mergesN]
theorem mergesL_right {α : Type} (p : List α) (y : α) (ys : List α) : mergesL p [] (y :: ys) = mergesL (p ++ [y]) [] ys := by
  simp [mergesL, mergesN]
theorem mergesL_both {α : Type} (p : List α) (x y : α) (xs ys : List α) : mergesL p (x :: xs) (y :: ys) = mergesL (p ++ [x]) xs (y :: ys) ++ mergesL (p ++ [y]) (x :: xs) ys := by
  simp only [mergesL, List.length_cons]
  rw [show xs.length + 1 + (ys.length + 1) = (xs.length + (ys.length + 1)) + 1 by omega, show xs.length + 1 + ys.length = xs.length + (ys.length + 1) by omega]
  rw [mergesN]
theorem mergesL_xx {α : Type} (p : List α) (x y : List α) (i k : Nat) (hi : i < x.length) (hk : k < y.length) :
    mergesL p (x.drop i) (y.drop k) = mergesL (p ++ [x[i]]) (x.drop (i + 1)) (y.drop k) ++ mergesL (p ++ [y[k]]) (x.drop i) (y.drop (k + 1)) := by
  rw [List.drop_eq_getElem_cons hi, List.drop_eq_getElem_cons hk, mergesL_both]
theorem mergesL_xn {α : Type} (p : List α) (x y : List α) (i k : Nat) (hi : i < x.length) (hk : ¬ k < y.length) : mergesL p (x.drop i) (y.drop k) = mergesL (p ++ [x[i]]) (x.drop (i + 1)) (y.drop k) := by
  rw [List.drop_eq_getElem_cons hi, List.drop_eq_nil_of_le (by omega : y.length ≤ k), mergesL_left]
theorem mergesL_nx {α : Type} (p : List α) (x y : List α) (i k : Nat) (hi : ¬ i < x.length) (hk : k < y.length) : mergesL p (x.drop i) (y.drop k) = mergesL (p ++ [y[k]]) (x.drop i) (y.drop (k + 1)) := by
  rw [List.drop_eq_getElem_cons hk, List.drop_eq_nil_of_le (by omega : x.length ≤ i), mergesL_right]
theorem mergesL_nn {α : Type} (p : List α) (x y : List α) (i k : Nat) (hi : ¬ i < x.length) (hk : ¬ k < y.length) : mergesL p (x.drop i) (y.drop k) = [p] := by
  rw [List.drop_eq_nil_of_le (by omega : x.length ≤ i), List.drop_eq_nil_of_le (by omega : y.length ≤ k), mergesL_nil]

theorem selP_true (l : List Ev) : ∀ k, selP (fun _ => true) l k = l.take k
  | 0 => rfl
  | k + 1 => by
    rw [selP, selP_true l k]
    rcases Nat.lt_or_ge k l.length with h | h
    · rw [List.take_succ_eq_append_getElem h]; simp [h]
    · rw [List.getElem?_eq_none h, List.take_of_length_le h, List.take_of_length_le (Nat.le_succ_of_le h)]
theorem keepP_true (l : List Ev) : keepP (fun _ => true) l = l := by rw [keepP, selP_true, List.take_length]

/-! ### the buffer: what stands in it first -/
def BufOk (K1 K2 L cap : Nat) (p : List Ev) (W : World) : Prop :=
  ∃ cs, W.ownsRow L 37 12 (.slice (some ⟨L + 1, 0, none⟩) p.length cap) p.length cs ∧ CellsOf eEl K1 K2 W p cs
section
variable {K1 K2 L cap : Nat} {p q : List Ev} {W W' : World}
theorem BufOk.size (h : BufOk K1 K2 L cap p W) : L + 1 < W.heap.size := by
  obtain ⟨cs, h1, h2⟩ := h
  exact (h1.lt (L + 1) rfl).2
theorem BufOk.loc (h : BufOk K1 K2 L cap p W) (h1 : W'.heap[L + 1]? = W.heap[L + 1]?) (h2 : Same K1 K2 W W') : BufOk K1 K2 L cap p W' := by
  obtain ⟨cs, h3, h4⟩ := h
  refine ⟨cs, ownsRow_block h3 (fun g hg => ?_), h4.1, fun j x hj => eEl.loc _ _ _ _ _ (h4.2 j x hj) _ h2⟩
  obtain rfl : L + 1 = g := by simpa [Value.ownBlock] using hg
  exact h1
theorem BufOk.take (h : BufOk K1 K2 L cap (p ++ q) W) : BufOk K1 K2 L cap p W := by
  obtain ⟨cs, ⟨h3, h5⟩, h4⟩ := h
  refine ⟨cs.take (p.length * 12), ⟨?_, ?_⟩, ?_, ?_⟩
  · have := h4.1
    simp only [List.length_append, eEl] at this
    simp; omega
  · rcases h5 with ⟨h, _⟩ | ⟨g, cap', cur, he, h6, h7, h8, h9, h10, h11⟩
    · cases h
    · refine .inr ⟨g, cap', cur, by simpa using he, h6, h7, ?_, h9, h10, ?_⟩
      · simp at h8; omega
      · rw [← h11]
        simp [List.take_take, h3]
  · have := h4.1
    simp only [List.length_append, eEl] at this
    simp [eEl]; omega
  · intro j x hj
    have hlt : j < p.length := by
      rcases Nat.lt_or_ge j p.length with h | h
      · exact h
      · rw [List.getElem?_eq_none h] at hj; cases hj
    have := h4.2 j x (by rw [List.getElem?_append_left hlt]; exact hj)
    have e1 : ((List.take (p.length * 12) cs).drop (j * eEl.sz)).take eEl.sz = (cs.drop (j * eEl.sz)).take eEl.sz := by
      show ((List.take (p.length * 12) cs).drop (j * 12)).take 12 = (cs.drop (j * 12)).take 12
      rw [List.drop_take, List.take_take]
      congr 1
      omega
    rw [e1]; exact this
theorem BufOk.row (h : BufOk K1 K2 L cap p W) (hl : p.length * 144 ≤ 140737488355328) (hK : K2 ≤ L) : Row eEl 0 (L + 2) W (some ⟨L + 1, 0, none⟩) p := by
  obtain ⟨cs, h3, h4⟩ := h
  refine ⟨hl, fun _ => ⟨L + 1, 0, rfl, Nat.zero_le _, by omega, fun j x hj => ?_⟩⟩
  refine ⟨_, eEl.mono _ _ _ _ _ (h4.2 j x hj) _ _ (Nat.zero_le _) (by omega), fun i u hu => ?_⟩
  rw [List.getElem?_take] at hu
  split at hu
  · rw [List.getElem?_drop] at hu
    have h9 := h3.cells (g := L + 1) rfl (j * eEl.sz + i) u hu
    have ha : (⟨L + 1, 0, none⟩ : Addr).add (j * eEl.sz + i) = ⟨L + 1, 0 + j * eEl.sz + i, none⟩ := by unfold Addr.add; split <;> simp_all
    rw [ha] at h9
    exact h9
  · cases hu
end
theorem step_appendFit (w : World) {P : Program} {ops : Array Oper} {o : Oper} {a : Act} {K : Act → World → Prop} {Q : Exit → Act → World → Prop} {F : Prop} (hgd : o.guard = none) (s x : Operand) (t : TypeId)
    (ho : o.op = .call { callee := .builtin .append, args := #[s, x], argTypes := #[t, t] }) {z : Value}
    (ht : P.underlying t = some (.slice 37)) (hi : (P.info? 37).map (fun i => (i.zero, i.size, i.bytes)) = some (some z, 12, 144))
    {K1 K2 L cap H : Nat} {p : List Ev} {y : Ev} {ycs : Array Value} {n n1 : Nat} (hn : n = p.length) (hn1 : n1 = n + 1) (hs : a.eval s = .slice (some ⟨L + 1, 0, none⟩) n cap) (hx : a.eval x = .slice (some ⟨H, 0, none⟩) 1 1) (hbox : w.heap[H]? = some (.cells ycs 37 (0, 0)))
    (hB : BufOk K1 K2 L cap p w) (hy : eEl.R K1 K2 w y ycs.toList) (hroom : n + 1 ≤ cap) (hK : K2 ≤ L)
    (h : ∀ w', BufOk K1 K2 L cap (p ++ [y]) w' → w.grownBy w' (some (L + 1)) → K (a.put o.dst (.slice (some ⟨L + 1, 0, none⟩) n1 cap)) w') :
    if Region.wanted o (yielded ops a.tmps) = true then Oper.wp P o a w K Q else F := by
  subst hn hn1
  have hw : Region.wanted o (yielded ops a.tmps) = true := by simp [Region.wanted, hgd]
  rw [if_pos hw]
  obtain ⟨cs, h3, h4⟩ := hB
  obtain ⟨i, hi0, hz0, hz1, hz2⟩ := info_parts hi
  have hyl := eEl.len _ _ _ _ _ hy
  have hnews := World.news_of_block hbox
  obtain ⟨w', hrun, hown, hg⟩ := run_append_fits (P := P) w L t o.type 37 i 12 ht hi0 hz1 (L + 1) p.length cap cs h3 ⟨H, 0, none⟩ 1 1 ycs.toList (by simpa [eEl] using hyl) hnews (eEl.one _ _ _ _ _ hy) hroom
  have hk := h w' ⟨cs ++ ycs.toList, by rw [List.length_append]; exact hown, ?_⟩ hg
  · unfold Oper.wp
    simp [execOp, ho, resolve, invoke, builtin, hs, hx, hrun, Result.andThen]
    exact hk
  · have hsame : Same K1 K2 w w' := Same.grown hg (by have := (h3.lt (L + 1) rfl).2; omega) (fun g e => by cases e; omega)
    have h5 : CellsOf eEl K1 K2 w' p cs := ⟨h4.1, fun j x hj => eEl.loc _ _ _ _ _ (h4.2 j x hj) _ hsame⟩
    exact h5.snoc (eEl.loc _ _ _ _ _ hy _ hsame)
end Go.Proofs.Ytifakbipdmceiaa
