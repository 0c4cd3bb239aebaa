import Derived.Test.YtifakbipdmceiaaJLawA17
import Derived.Test.YtifakbipdmceiaaJLawA40
import Derived.Test.YtifakbipdmceiaaJLawA41
import Derived.Test.YtifakbipdmceiaaJLawA24
set_option linter.unusedVariables false
set_option linter.unusedSimpArgs false
namespace Go.Proofs.Ytifakbipdmceiaa
open Go.RowKit

/-! ### the parts of a history: the program's answer is the document's -/
theorem selP_congr {P R : Nat → Bool} {l : List Ev} : ∀ k, (∀ j, j < k → j < l.length → P j = R j) → selP P l k = selP R l k
  | 0, _ => rfl
  | k + 1, h => by
    rw [selP, selP, selP_congr k (fun j hj => h j (by omega))]
    split
    · rfl
    · rename_i e he
      rw [h k (Nat.lt_succ_self k) (by
        rcases Nat.lt_or_ge k l.length with h1 | h1
        · exact h1
        · rw [List.getElem?_eq_none h1] at he; cases he)]
theorem keepP_congr {P R : Nat → Bool} {l : List Ev} (h : ∀ j, j < l.length → P j = R j) : keepP P l = keepP R l := selP_congr _ fun j _ hl => h j hl
theorem opn_kind (l : List Ev) (s : ByteArray) : ∀ (k : Nat) (i : Int), opn l s k = some i → ∃ e, l[i.toNat]? = some e ∧ e.k = 1
  | 0, i, h => by cases h
  | k + 1, i, h => by
    rw [opn] at h
    split at h
    · exact opn_kind l s k i h
    · rename_i e he
      split at h
      · split at h
        · cases h; exact ⟨e, by simpa using he, by assumption⟩
        · split at h
          · cases h
          · exact opn_kind l s k i h
      · exact opn_kind l s k i h
theorem getD_set (t : List Int) (a j : Nat) (v : Int) : (t.set a v)[j]? = if a = j then (if a < t.length then some v else none) else t[j]? := by
  rw [List.getElem?_set]
/-- What stands at a response. -/
theorem toF_res (l : List Ev) {j : Nat} {e : Ev} (he : l[j]? = some e) (hk : e.k = 2) : ∀ n, j < n → n ≤ l.length → (toF l n)[j]? = some (callR l j)
  | 0, h, _ => by omega
  | n + 1, h, hn => by
    have hl := toF_len l n
    have hc : callR l j = (opn l e.p j).getD (-1) := by simp [callR, he, hk]
    have hen : l[n]? = some l[n] := List.getElem?_eq_getElem (by omega)
    rw [toF, hen]
    rcases Nat.lt_or_ge j n with h1 | h1
    · have ih := toF_res l he hk n h1 (by omega)
      have hne : n ≠ j := by omega
      dsimp only
      split
      · split
        · rename_i i hi
          obtain ⟨e', he', hk'⟩ := opn_kind l _ _ _ hi
          have hij : i.toNat ≠ j := by intro h2; rw [h2, he] at he'; cases he'; omega
          simp [List.getElem?_set, hne, hij, ih]
        · simp [List.getElem?_set, hne, ih]
      · simp [List.getElem?_set, hne, ih]
    · obtain rfl : j = n := by omega
      rw [hen] at he
      cases he
      dsimp only
      rw [if_pos hk]
      cases hi : opn l l[j].p j with
      | none => simp [hc, hi, List.getElem?_set, hl]; omega
      | some i =>
        have := opn_lt l _ _ _ hi
        have hij : i.toNat ≠ j := by omega
        simp [hc, hi, List.getElem?_set, hl, hij]; omega
/-- What stands at another event. -/
theorem toF_inv (l : List Ev) {j : Nat} {e : Ev} (he : l[j]? = some e) (hk : ¬ e.k = 2) : ∀ n, j < n → n ≤ l.length → ∃ t, (toF l n)[j]? = some t ∧ (0 ≤ t ↔ ∃ k, k < n ∧ callR l k = j)
  | 0, h, _ => by omega
  | n + 1, h, hn => by
    have hl := toF_len l n
    have hen : l[n]? = some l[n] := List.getElem?_eq_getElem (by omega)
    have hlt := fun k => callR_lt l k
    rw [toF, hen]
    rcases Nat.lt_or_ge j n with h1 | h1
    · obtain ⟨t, ht, hiff⟩ := toF_inv l he hk n h1 (by omega)
      have hne : n ≠ j := by omega
      have hsame : callR l n ≠ j → (0 ≤ t ↔ ∃ k, k < n + 1 ∧ callR l k = j) := fun hn' => hiff.trans ⟨fun ⟨k, h2, h3⟩ => ⟨k, by omega, h3⟩, fun ⟨k, h2, h3⟩ => by
        rcases Nat.lt_or_ge k n with h4 | h4
        · exact ⟨k, h4, h3⟩
        · obtain rfl : k = n := by omega
          exact absurd h3 hn'⟩
      dsimp only
      split
      · rename_i hk2
        split
        · rename_i i hi
          have hci : callR l n = i := by simp [callR, hen, hk2, hi]
          have h0 := opn_lt l _ _ _ hi
          by_cases hij : i.toNat = j
          · exact ⟨n, by simp [List.getElem?_set, hij, hne, hl]; omega, ⟨fun _ => ⟨n, by omega, by omega⟩, fun _ => by omega⟩⟩
          · exact ⟨t, by simp [List.getElem?_set, hne, hij, ht], hsame (by omega)⟩
        · rename_i hi
          exact ⟨t, by simp [List.getElem?_set, hne, ht], hsame (by simp [callR, hen, hk2, hi] <;> omega)⟩
      · rename_i hk2
        exact ⟨t, by simp [List.getElem?_set, hne, ht], hsame (by simp [callR, hen, hk2] <;> omega)⟩
    · obtain rfl : j = n := by omega
      rw [hen] at he
      cases he
      dsimp only
      rw [if_neg hk]
      refine ⟨-1, by simp [List.getElem?_set, hl]; omega, ⟨fun h => by omega, fun ⟨k, h2, h3⟩ => ?_⟩⟩
      have := (hlt k).2
      omega
theorem replyF_iff (l : List Ev) (i : Int) : ∀ f k, (0 ≤ replyF l i f k ↔ ∃ m, k ≤ m ∧ m < k + f ∧ callR l m = i)
  | 0, k => by simp [replyF]; omega
  | f + 1, k => by
    rw [replyF]
    split
    · rename_i h; exact ⟨fun _ => ⟨k, by omega, by omega, h⟩, fun _ => by omega⟩
    · rename_i h
      rw [replyF_iff l i f (k + 1)]
      constructor
      · rintro ⟨m, h1, h2, h3⟩; exact ⟨m, by omega, by omega, h3⟩
      · rintro ⟨m, h1, h2, h3⟩
        refine ⟨m, ?_, by omega, h3⟩
        rcases Nat.eq_or_lt_of_le h1 with rfl | h4
        · exact absurd h3 h
        · exact h4
theorem replyR_iff (l : List Ev) (j : Nat) (hj : j < l.length) : (0 ≤ replyR l j ↔ ∃ k, k < l.length ∧ callR l k = j) := by
  unfold replyR
  rw [show ((j : Int) + 1).toNat = j + 1 by omega, replyF_iff]
  constructor
  · rintro ⟨m, h1, h2, h3⟩; exact ⟨m, by omega, h3⟩
  · rintro ⟨m, h1, h2⟩
    have := (callR_lt l m).2
    exact ⟨m, by omega, by omega, h2⟩
theorem wholeB_eq (l : List Ev) (j : Nat) (hj : j < l.length) : wholeB l (callsP l) j = refWholeB l j := by
  have he : l[j]? = some l[j] := List.getElem?_eq_getElem hj
  by_cases hk : l[j].k = 2
  · have h := toF_res l he hk l.length hj (Nat.le_refl _)
    have h' : (callsP l)[j]? = some (callR l j) := h
    unfold wholeB refWholeB
    simp only [he, h', hk]
    by_cases h0 : 0 ≤ callR l j
    · simp [h0]
    · simp [h0]; omega
  · obtain ⟨t, h, hiff⟩ := toF_inv l he hk l.length hj (Nat.le_refl _)
    have h' : (callsP l)[j]? = some t := h
    rw [← replyR_iff l j hj] at hiff
    have hk2 : (l[j].k == 2) = false := by simp [hk]
    unfold wholeB refWholeB
    simp only [he, h', hk2]
    cases h1 : (l[j].k == 1)
    · simp
    · have : decide (0 ≤ t) = !decide (replyR l ↑j < 0) := by
        rw [show decide (0 ≤ t) = decide (0 ≤ replyR l j) from decide_eq_decide.2 hiff]
        by_cases h2 : 0 ≤ replyR l j
        · simp [h2]
        · simp [h2]; omega
      simp [this]
theorem objB_eq (l : List Ev) (name : ByteArray) (j : Nat) (hj : j < l.length) : objB l (callsP l) name j = refObjB l name j := by
  have he : l[j]? = some l[j] := List.getElem?_eq_getElem hj
  by_cases hk : l[j].k = 2
  · have h := toF_res l he hk l.length hj (Nat.le_refl _)
    have h' : (callsP l)[j]? = some (callR l j) := h
    unfold objB refObjB objAtB
    simp only [he, h', hk, if_pos]
    by_cases h0 : 0 ≤ callR l j
    · have hc : callR l j = (opn l l[j].p j).getD (-1) := by simp [callR, he, hk]
      cases hi : opn l l[j].p j with
      | none => rw [hi] at hc; simp at hc; omega
      | some i =>
        rw [hi] at hc
        simp at hc
        obtain ⟨e', h1, h2⟩ := opn_kind l _ _ _ hi
        rw [hc, h1]
        simp [h2]
    · simp [h0]
  · obtain ⟨t, h, hiff⟩ := toF_inv l he hk l.length hj (Nat.le_refl _)
    have h' : (callsP l)[j]? = some t := h
    have hk2 : (l[j].k == 2) = false := by simp [hk]
    unfold objB refObjB objAtB
    simp only [he, h', hk2, if_neg hk]
    simp [he]
theorem object_same (l : List Ev) (name : ByteArray) : objectP l name = keepP (refObjB l name) l := keepP_congr fun j hj => objB_eq l name j hj
theorem whole_same (l : List Ev) : wholeP l = keepP (refWholeB l) l := keepP_congr fun j hj => wholeB_eq l j hj
/-! ### Exact is reflexive -/
mutual
theorem rordV_self : ∀ x : Val, rordV x x = 0
  | .mk k n m t l => by rw [rordV]; simp [rordL_self l]
theorem rordL_self : ∀ xs : List Val, rordL xs xs = 0
  | [] => by rw [rordL]; simp
  | x :: xs => by rw [rordL]; simp [rordV_self x, rordL_self xs]
end
theorem exE_self (x : Ev) : exE x x = true := by simp [exE, neSpot, rsameV, rordV_self]
theorem exEs_self : ∀ xs : List Ev, exEs xs xs = true
  | [] => rfl
  | x :: xs => by simp [exEs, exE_self, exEs_self xs]
end Go.Proofs.Ytifakbipdmceiaa
