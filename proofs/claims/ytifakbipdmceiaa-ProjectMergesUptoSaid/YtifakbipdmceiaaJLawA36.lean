import Derived.Test.YtifakbipdmceiaaJLawA23
import Derived.Test.YtifakbipdmceiaaJLawA35
set_option linter.unusedVariables false
set_option linter.unusedSimpArgs false
namespace Go.Proofs.Ytifakbipdmceiaa
open Go.RowKit

/-! ### the reference's Right is the program's -/
theorem cmpB_sign : ∀ a b : List UInt8, Lib.compareBytes a b = signZ (Op.bytesLess a b) (!(Op.bytesLess a b || a == b))
  | [], [] => by simp [Lib.compareBytes, Op.bytesLess, signZ]
  | [], _ :: _ => by simp [Lib.compareBytes, Op.bytesLess, signZ]
  | _ :: _, [] => by simp [Lib.compareBytes, Op.bytesLess, signZ]
  | x :: xs, y :: ys => by
    have ih := cmpB_sign xs ys
    rw [Lib.compareBytes, ih]
    by_cases h1 : x < y
    · simp [h1, Op.bytesLess, signZ]
    · by_cases h2 : y < x
      · have h3 : x ≠ y := fun e => by subst e; exact h1 h2
        have h4 : (x == y) = false := by simp [h3]
        simp [h1, h2, Op.bytesLess, signZ, h3]
      · have h3 : x = y := UInt8.le_antisymm (UInt8.not_lt.1 h2) (UInt8.not_lt.1 h1)
        subst h3
        simp [h1, Op.bytesLess]
theorem signZ_n (a b : Int) : signZ (decide (a < b)) (decide (b < a)) ≠ 0 ↔ a ≠ b := by
  by_cases h : a < b
  · simp [signZ, h]; omega
  · by_cases h' : b < a
    · simp [signZ, h, h']; omega
    · simp [signZ, h, h']; omega
theorem signZ_t (p q : Prop) [Decidable p] [Decidable q] (h : ¬ p → q) : signZ (decide p) (decide q) = signZ (decide p) true := by
  by_cases hp : p
  · simp [signZ, hp]
  · simp [signZ, hp, h hp]
theorem formL_all (sb : Bool) : ∀ (l : List Val) (p : Option Val), formL sb p l = true → ∀ x ∈ l, formB x = true
  | [], _, _, x, hx => by cases hx
  | y :: ys, none, h, x, hx => by
    rw [formL, Bool.and_eq_true] at h
    rcases List.mem_cons.1 hx with rfl | h2
    · exact h.1
    · exact formL_all sb ys _ h.2 x h2
  | y :: ys, some p, h, x, hx => by
    rw [formL, Bool.and_eq_true, Bool.and_eq_true] at h
    rcases List.mem_cons.1 hx with rfl | h2
    · exact h.1.1
    · exact formL_all sb ys _ h.2 x h2
/-- What a value in form is like. -/
theorem formB_like {k n m : Int} {t : ByteArray} {l : List Val} (h : formB (.mk k n m t l) = true) :
    ((k = 1 ∨ k = 2 ∨ k = 3 ∨ k = 4) ∧ l = []) ∨ ((k = 5 ∨ k = 6 ∨ k = 7) ∧ n = 0 ∧ m = 0 ∧ t.toList = [] ∧ ∀ x ∈ l, formB x = true) := by
  rw [formB] at h
  by_cases h1 : k = 1
  · rw [if_pos h1] at h; simp [plainB] at h; exact .inl ⟨.inl h1, h.1.1.2⟩
  rw [if_neg h1] at h
  by_cases h2 : k = 2
  · rw [if_pos h2] at h; simp [plainB] at h; exact .inl ⟨.inr (.inl h2), h.1.2⟩
  rw [if_neg h2] at h
  by_cases h3 : k = 3
  · rw [if_pos h3] at h; simp [plainB] at h; exact .inl ⟨.inr (.inr (.inl h3)), h.1.1.2⟩
  rw [if_neg h3] at h
  by_cases h4 : k = 4
  · rw [if_pos h4] at h; simp at h; exact .inl ⟨.inr (.inr (.inr h4)), h.1.2⟩
  rw [if_neg h4] at h
  by_cases h5 : k = 5 ∨ k = 6 ∨ k = 7
  · rw [if_pos h5] at h
    simp only [Bool.and_eq_true, beq_iff_eq] at h
    exact .inr ⟨h5, h.1.1.1, h.1.1.2, by simpa using h.1.2, formL_all _ _ _ h.2⟩
  · rw [if_neg h5] at h; cases h
mutual
theorem rord_ord : ∀ x y : Val, formB x = true → formB y = true → rordV x y = ordP x y
  | .mk k n m t l, .mk k' n' m' t' l', hx, hy => by
    rw [rordV, ordP]
    by_cases h1 : k = k'
    · subst h1
      rw [if_neg (not_not_intro rfl), if_neg (not_not_intro rfl)]
      have key : l.length = l'.length → (if n ≠ n' then signZ (decide (n < n')) (decide (n' < n)) else if m ≠ m' then signZ (decide (m < m')) (decide (m' < m)) else if (t.toList == t'.toList) = false then signZ (lessB t t') (moreB t t') else if l.length ≠ l'.length then signZ (decide (l.length < l'.length)) (decide (l'.length < l.length)) else rordL l l') =
          (if signZ (decide (n < n')) (decide (n' < n)) ≠ 0 then signZ (decide (n < n')) (decide (n' < n)) else if signZ (decide (m < m')) (decide (m' < m)) ≠ 0 then signZ (decide (m < m')) (decide (m' < m)) else if Lib.compareBytes t.data.toList t'.data.toList ≠ 0 then Lib.compareBytes t.data.toList t'.data.toList else ordPL l l') := by
        intro hl
        simp only [signZ_n]
        by_cases h2 : n ≠ n'
        · rw [if_pos h2, if_pos h2]
        rw [if_neg h2, if_neg h2]
        by_cases h3 : m ≠ m'
        · rw [if_pos h3, if_pos h3]
        rw [if_neg h3, if_neg h3]
        have e := cmpB_sign t.toList t'.toList
        rw [← ByteArray.toList_eq, ← ByteArray.toList_eq, e]
        rw [if_neg (not_not_intro hl)]
        cases h4 : (t.toList == t'.toList)
        · rw [if_pos rfl]
          have h5 : signZ (Op.bytesLess t.toList t'.toList) (!(Op.bytesLess t.toList t'.toList || false)) ≠ 0 := by
            cases Op.bytesLess t.toList t'.toList <;> simp [signZ]
          rw [if_pos h5, lessB, moreB, h4]
        · rw [if_neg (by simp)]
          have h5 : t.toList = t'.toList := by simpa using h4
          have h6 : signZ (Op.bytesLess t.toList t'.toList) (!(Op.bytesLess t.toList t'.toList || true)) = 0 := by
            have := cmpB_self t.toList
            rw [h5] at this e ⊢
            rw [cmpB_sign] at this
            simpa using this
          rw [if_neg (not_not_intro h6)]
          have hl2 : (∀ z ∈ l, formB z = true) ∧ ∀ z ∈ l', formB z = true := by
            constructor
            · rcases formB_like hx with ⟨_, rfl⟩ | ⟨_, _, _, _, h⟩
              · intro z hz; cases hz
              · exact h
            · rcases formB_like hy with ⟨_, rfl⟩ | ⟨_, _, _, _, h⟩
              · intro z hz; cases hz
              · exact h
          exact rordL_ord l l' hl2.1 hl2.2
      by_cases hl : l.length = l'.length
      · rw [key hl, if_neg (not_not_intro hl)]
      · rw [if_pos hl]
        rcases formB_like hx with ⟨hk, rfl⟩ | ⟨hk, rfl, rfl, ht, _⟩
        · rcases formB_like hy with ⟨_, rfl⟩ | ⟨hk', _⟩
          · exact absurd rfl hl
          · omega
        · rcases formB_like hy with ⟨hk', rfl⟩ | ⟨_, rfl, rfl, ht', _⟩
          · omega
          · rw [if_neg (by simp), if_neg (by simp), ht, ht', if_neg (by simp), if_pos hl]
            exact signZ_t _ _ (by omega)
    · rw [if_pos h1, if_pos h1]
      exact signZ_t _ _ (by omega)
theorem rordL_ord : ∀ l l' : List Val, (∀ z ∈ l, formB z = true) → (∀ z ∈ l', formB z = true) → rordL l l' = ordPL l l'
  | [], _, _, _ => by rw [rordL, ordPL] <;> simp
  | _ :: _, [], _, _ => by rw [rordL, ordPL] <;> simp
  | x :: xs, y :: ys, h, h' => by
    rw [rordL, ordPL, rord_ord x y (h x List.mem_cons_self) (h' y List.mem_cons_self), rordL_ord xs ys (fun z hz => h z (List.mem_cons_of_mem _ hz)) (fun z hz => h' z (List.mem_cons_of_mem _ hz))]
end

/-! ### the reference's form -/
mutual
def rformB : Val → Bool
  | .mk k n m t l =>
    if k = 1 then plainB t l && (m == 0) && (n == 0 || n == 1)
    else if k = 2 then plainB t l && (m == 0)
    else if k = 3 then plainB t l && partB n && partB m
    else if k = 4 then (n == 0) && (m == 0) && decide (l.length = 0) && symB t
    else if k = 5 ∨ k = 6 ∨ k = 7 then (n == 0) && (m == 0) && t.toList.isEmpty && rformL (k == 7) none l
    else false
def rformL (set : Bool) : Option Val → List Val → Bool
  | _, [] => true
  | none, x :: xs => rformB x && rformL set (some x) xs
  | some p, x :: xs => rformB x && (!set || decide (rordV p x < 0)) && rformL set (some x) xs
end
mutual
theorem rform_form : ∀ x : Val, rformB x = formB x
  | .mk k n m t l => by rw [rformB, formB, rformL_form (k == 7) l none (by simp)]
theorem rformL_form (sb : Bool) : ∀ (l : List Val) (p : Option Val), (∀ q, p = some q → formB q = true) → rformL sb p l = formL sb p l
  | [], p, _ => by cases p <;> rw [rformL, formL] <;> simp
  | x :: xs, none, _ => by
    rw [rformL, formL, rform_form x]
    cases h : formB x
    · simp
    · rw [rformL_form sb xs (some x) (fun q e => by cases e; exact h)]
  | x :: xs, some p, hp => by
    rw [rformL, formL, rform_form x]
    cases h : formB x
    · simp
    · rw [rformL_form sb xs (some x) (fun q e => by cases e; exact h), rord_ord p x (hp p rfl) h]
end
theorem rformL_step (sb : Bool) (items : List Val) (j : Nat) (hj : j < items.length) : rformL sb (prevV items j) (items.drop j) =
    (rformB items[j] && (match prevV items j with | none => true | some p => !sb || decide (rordV p items[j] < 0)) && rformL sb (prevV items (j + 1)) (items.drop (j + 1))) := by
  rw [List.drop_eq_getElem_cons hj, prevV_succ items j hj]
  cases prevV items j <;> simp [rformL]

/-! ### how many parts -/
mutual
theorem cr_cnt : ∀ (x : Val) (s d : Int), s ≤ 4096 → crV x s d = if (cntV x d s).1 ≤ 16 ∧ (cntV x d s).2 ≤ 4096 then (cntV x d s).2 else 4097
  | .mk k n m t l, s, d, hs => by
    rw [crV, cntV]
    by_cases h : s + 1 > 4096 ∨ d > 16
    · rw [if_pos h, if_pos h, if_neg (by simp only; omega)]
    · rw [if_neg h, if_neg h]
      exact crL_cnt l (s + 1) d d (by omega) (by omega)
theorem crL_cnt : ∀ (l : List Val) (n d most : Int), n ≤ 4096 → most ≤ 16 → crL l n d = if (cntL l d n most).1 ≤ 16 ∧ (cntL l d n most).2 ≤ 4096 then (cntL l d n most).2 else 4097
  | [], n, d, most, hn, hm => by rw [crL, cntL, if_pos ⟨hm, hn⟩]
  | x :: xs, n, d, most, hn, hm => by
    rw [crL, cntL, cr_cnt x n (d + 1) hn]
    obtain ⟨p, hp⟩ : ∃ p, p = cntV x (d + 1) n := ⟨_, rfl⟩
    rw [← hp]
    by_cases h : p.2 > 4096 ∨ max most p.1 > 16
    · rw [if_pos h]
      have h2 : ¬ (p.1 ≤ 16 ∧ p.2 ≤ 4096) := by omega
      rw [if_neg h2, if_pos (by decide), if_neg (by simp only; omega)]
    · have h2 : p.1 ≤ 16 ∧ p.2 ≤ 4096 := by omega
      rw [if_neg h, if_pos h2, if_neg (by omega)]
      exact crL_cnt xs p.2 d (max most p.1) (by omega) (by omega)
end
def rrightB (x : Val) : Bool := decide (crV x 0 1 ≤ 4096) && rformB x
theorem rright_right (x : Val) : rrightB x = rightB x := by
  rw [rrightB, rightB, rform_form, smallB, cr_cnt x 0 1 (by omega)]
  by_cases h : (cntV x 1 0).1 ≤ 16 ∧ (cntV x 1 0).2 ≤ 4096
  · rw [if_pos h]; simp [h]
  · rw [if_neg h]
    by_cases h1 : (cntV x 1 0).1 ≤ 16
    · have : ¬ (cntV x 1 0).2 ≤ 4096 := fun h2 => h ⟨h1, h2⟩
      simp [this]
    · simp [h1]
end Go.Proofs.Ytifakbipdmceiaa
