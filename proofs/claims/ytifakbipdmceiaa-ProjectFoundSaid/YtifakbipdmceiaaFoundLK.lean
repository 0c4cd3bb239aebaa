import Derived.Test.YtifakbipdmceiaaOrderLK
import Derived.Test.YtifakbipdmceiaaJLaw329
set_option linter.unusedVariables false
set_option linter.unusedSimpArgs false
namespace Go.Proofs.Ytifakbipdmceiaa
open Go.RowKit

/-! ### a history of two objects is one of the interleavings of its parts -/
theorem mem_merges {α : Type} : ∀ (t : List (α × Bool)) (p : List α), p ++ t.map Prod.fst ∈ mergesL p ((t.filter fun z => z.2).map Prod.fst) ((t.filter fun z => !z.2).map Prod.fst)
  | [], p => by simp [mergesL_nil]
  | (a, true) :: t, p => by
    have ih := mem_merges t (p ++ [a])
    simp only [List.map_cons, List.filter_cons, if_true, Bool.not_true, if_false, Bool.false_eq_true]
    rw [show p ++ a :: t.map Prod.fst = (p ++ [a]) ++ t.map Prod.fst by simp]
    cases hy : (t.filter fun z => !z.2).map Prod.fst with
    | nil => rw [hy] at ih; rw [mergesL_left]; exact ih
    | cons y ys => rw [hy] at ih; rw [mergesL_both]; exact List.mem_append.2 (.inl ih)
  | (a, false) :: t, p => by
    have ih := mem_merges t (p ++ [a])
    simp only [List.map_cons, List.filter_cons, if_true, Bool.not_false, if_false, Bool.false_eq_true]
    rw [show p ++ a :: t.map Prod.fst = (p ++ [a]) ++ t.map Prod.fst by simp]
    cases hx : (t.filter fun z => z.2).map Prod.fst with
    | nil => rw [hx] at ih; rw [mergesL_right]; exact ih
    | cons x xs => rw [hx] at ih; rw [mergesL_both]; exact List.mem_append.2 (.inr ih)
def tagL (P : Nat → Bool) (l : List Ev) : Nat → List (Ev × Bool)
  | 0 => []
  | k + 1 => match l[k]? with
    | none => tagL P l k
    | some e => tagL P l k ++ [(e, P k)]
theorem tagL_fst (P : Nat → Bool) (l : List Ev) : ∀ k, k ≤ l.length → (tagL P l k).map Prod.fst = l.take k
  | 0, _ => by simp [tagL]
  | k + 1, h => by
    have he : l[k]? = some l[k] := List.getElem?_eq_getElem (by omega)
    rw [tagL, he, List.take_add_one, he]
    simp [tagL_fst P l k (by omega)]
theorem tagL_yes (P : Nat → Bool) (l : List Ev) : ∀ k, ((tagL P l k).filter fun z => z.2).map Prod.fst = selP P l k
  | 0 => rfl
  | k + 1 => by
    rw [tagL, selP]
    cases hl : l[k]? with
    | none => exact tagL_yes P l k
    | some e => cases hp : P k <;> simp [List.filter_append, tagL_yes P l k, hp]
theorem tagL_no (P : Nat → Bool) (l : List Ev) : ∀ k, ((tagL P l k).filter fun z => !z.2).map Prod.fst = selP (fun j => !P j) l k
  | 0 => rfl
  | k + 1 => by
    rw [tagL, selP]
    cases hl : l[k]? with
    | none => exact tagL_no P l k
    | some e => cases hp : P k <;> simp [List.filter_append, tagL_no P l k, hp]
theorem keep_merges (P : Nat → Bool) (l : List Ev) : l ∈ mergesL [] (keepP P l) (keepP (fun j => !P j) l) := by
  have := mem_merges (tagL P l l.length) []
  rw [tagL_fst P l l.length (Nat.le_refl _), tagL_yes, tagL_no] at this
  simpa [keepP] using this
noncomputable def mN : Nat → Nat → Nat
  | 0 => fun _ => 1
  | m + 1 => fun n => Nat.rec (motive := fun _ => Nat) 1 (fun n ih => mN m (n + 1) + ih) n
theorem mN_zero (m : Nat) : mN m 0 = 1 := by cases m <;> rfl
theorem mN_both (m n : Nat) : mN (m + 1) (n + 1) = mN m (n + 1) + mN (m + 1) n := rfl
theorem merges_len {α : Type} : ∀ (f : Nat) (p x y : List α), x.length + y.length ≤ f → (mergesL p x y).length = mN x.length y.length
  | _, p, [], [], _ => rfl
  | 0, p, x :: xs, y, h => by simp at h
  | 0, p, [], y :: ys, h => by simp at h
  | f + 1, p, x :: xs, [], h => by
    rw [mergesL_left, merges_len f _ xs [] (by simp at h ⊢; omega)]
    simp [mN_zero]
  | f + 1, p, [], y :: ys, h => by
    rw [mergesL_right, merges_len f _ [] ys (by simp at h ⊢; omega)]
    rfl
  | f + 1, p, x :: xs, y :: ys, h => by
    rw [mergesL_both, List.length_append, merges_len f _ xs (y :: ys) (by simp at h ⊢; omega), merges_len f _ (x :: xs) ys (by simp at h ⊢; omega)]
    simp only [List.length_cons, mN_both]
theorem mN_le : ∀ m, m < 11 → ∀ n, n < 11 → m + n ≤ 10 → mN m n ≤ 1000 := by decide +kernel
theorem sel_not_len (P : Nat → Bool) (l : List Ev) : ∀ k, (selP P l k).length + (selP (fun j => !P j) l k).length ≤ k
  | 0 => by simp [selP]
  | k + 1 => by
    have := sel_not_len P l k
    rw [selP, selP]
    cases hl : l[k]? with
    | none => simp only; omega
    | some e => cases hp : P k <;> simp [hp] <;> omega
theorem objects_mem (l : List Ev) : ∀ k, k ≤ l.length → ∀ j, j < k → ∀ e, l[j]? = some e → e.k = 1 → e.o ∈ selN objOf l k
  | 0, _, j, h, _, _, _ => by omega
  | k + 1, hk, j, hj, e, he, h1 => by
    have hek : l[k]? = some l[k] := List.getElem?_eq_getElem (by omega)
    rw [selN, hek]
    rcases Nat.lt_or_ge j k with h2 | h2
    · have ih := objects_mem l k (by omega) j h2 e he h1
      dsimp only
      split
      · exact List.mem_append.2 (.inl ih)
      · exact ih
    · obtain rfl : j = k := by omega
      rw [hek] at he
      cases he
      dsimp only
      by_cases hin : inS l[j].o (selN objOf l j) = false
      · rw [if_pos ⟨by simp [objOf, h1], hin⟩]; simp [objOf]
      · rw [if_neg (fun h => hin h.2)]
        exact (inS_iff _ _).1 (by simpa using hin)
/-- Each event is an invocation, or answers one. -/
def allCalls (l : List Ev) : Prop := ∀ j e, l[j]? = some e → e.k = 1 ∨ (e.k = 2 ∧ 0 ≤ callR l j)
theorem objB_not (l : List Ev) (o0 o1 : ByteArray) (ho : objectsP l = [o0, o1]) (ha : allCalls l) (j : Nat) (hj : j < l.length) : objB l (callsP l) o1 j = !objB l (callsP l) o0 j := by
  have hnd : ([o0, o1] : List ByteArray).Nodup := by rw [← ho]; exact selN_nodup objOf l _
  have hne : o0 ≠ o1 := by simpa using hnd
  have he : l[j]? = some l[j] := List.getElem?_eq_getElem hj
  have key : ∃ c y, (if l[j].k = 2 then callR l j else (j : Int)) = c ∧ 0 ≤ c ∧ l[c.toNat]? = some y ∧ y.k = 1 := by
    rcases ha j _ he with h1 | ⟨h2, h0⟩
    · refine ⟨j, l[j], by rw [if_neg (by omega)], by omega, he, h1⟩
    · have hc : callR l j = (opn l l[j].p j).getD (-1) := by simp [callR, he, h2]
      cases hi : opn l l[j].p j with
      | none => rw [hi] at hc; simp at hc; omega
      | some i =>
        rw [hi] at hc
        simp at hc
        obtain ⟨e', h3, h4⟩ := opn_kind l _ _ _ hi
        exact ⟨callR l j, e', by rw [if_pos h2], h0, by rw [hc]; exact h3, h4⟩
  obtain ⟨c, y, hc, h0, hy, hk⟩ := key
  have hlt : c.toNat < l.length := by
    rcases Nat.lt_or_ge c.toNat l.length with h | h
    · exact h
    · rw [List.getElem?_eq_none h] at hy; cases hy
  have hmem := objects_mem l l.length (Nat.le_refl _) c.toNat hlt y hy hk
  rw [show selN objOf l l.length = objectsP l from rfl, ho] at hmem
  rw [objB_eq l o1 j hj, objB_eq l o0 j hj]
  unfold refObjB objAtB
  simp only [he, hc, hy, hk, h0, decide_true, Bool.true_and, beq_self_eq_true]
  rcases List.mem_cons.1 hmem with h | h
  · simp [h, hne]
  · have : y.o = o1 := by simpa using h
    have hne' : ¬ o1 = o0 := fun e => hne e.symm
    simp [this, hne']
theorem found_mem (l : List Ev) (o0 o1 : ByteArray) (ho : objectsP l = [o0, o1]) (ha : allCalls l) (hl : l.length ≤ 10) : l ∈ (mergesL [] (objectP l o0) (objectP l o1)).take 1000 ∧ (objectP l o0).length + (objectP l o1).length ≤ 10 := by
  have h1 : objectP l o1 = keepP (fun j => !objB l (callsP l) o0 j) l := keepP_congr fun j hj => objB_not l o0 o1 ho ha j hj
  have hlen : (objectP l o0).length + (objectP l o1).length ≤ 10 := by
    rw [h1]
    exact Nat.le_trans (sel_not_len (objB l (callsP l) o0) l l.length) hl
  refine ⟨?_, hlen⟩
  rw [List.take_of_length_le]
  · rw [h1]; exact keep_merges _ l
  · rw [merges_len _ _ _ _ (Nat.le_refl _)]
    exact mN_le _ (by omega) _ (by omega) hlen
end Go.Proofs.Ytifakbipdmceiaa
