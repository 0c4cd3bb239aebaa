import Derived.Test.YtifakbipdmceiaaJLawA44
import Derived.Test.YtifakbipdmceiaaJLawA47
set_option linter.unusedVariables false
set_option linter.unusedSimpArgs false
namespace Go.Proofs.Ytifakbipdmceiaa
open Go.RowKit

/-! ### parts of parts -/
theorem opn_prefix (xs ys : List Ev) (s : ByteArray) : ∀ k, k ≤ xs.length → opn (xs ++ ys) s k = opn xs s k
  | 0, _ => rfl
  | k + 1, h => by
    rw [opn, opn, List.getElem?_append_left (by omega), opn_prefix xs ys s k (by omega)]
theorem sel_prefix (P : Nat → Bool) (l : List Ev) (k : Nat) : ∀ n, k ≤ n → ∃ t, selP P l n = selP P l k ++ t
  | 0, h => by obtain rfl : k = 0 := by omega
               exact ⟨[], by simp⟩
  | n + 1, h => by
    rcases Nat.eq_or_lt_of_le h with rfl | h2
    · exact ⟨[], by simp⟩
    · obtain ⟨t, ht⟩ := sel_prefix P l k n (by omega)
      rw [selP]
      split
      · exact ⟨t, ht⟩
      · split
        · exact ⟨t ++ [_], by rw [ht, List.append_assoc]⟩
        · exact ⟨t, ht⟩
theorem sel_next (P : Nat → Bool) (l : List Ev) {j : Nat} {e : Ev} (he : l[j]? = some e) (hp : P j = true) : selP P l (j + 1) = selP P l j ++ [e] := by
  rw [selP, he]; simp [hp]
theorem sel_at (P : Nat → Bool) (l : List Ev) {j : Nat} {e : Ev} (he : l[j]? = some e) (hp : P j = true) : (keepP P l)[(selP P l j).length]? = some e := by
  obtain ⟨t, ht⟩ := sel_prefix P l (j + 1) l.length (lt_of_get he)
  rw [keepP, ht, sel_next P l he hp, List.append_assoc, List.getElem?_append_right (Nat.le_refl _)]
  simp
theorem sel_pos (P : Nat → Bool) (l : List Ev) (i : Nat) : ∀ k, k ≤ l.length → i < (selP P l k).length → ∃ j e, j < k ∧ l[j]? = some e ∧ P j = true ∧ (selP P l j).length = i
  | 0, _, h => by simp [selP] at h
  | k + 1, hk, h => by
    have he : l[k]? = some l[k] := List.getElem?_eq_getElem (by omega)
    by_cases hp : P k = true
    · rw [sel_next P l he hp] at h
      rcases Nat.lt_or_ge i (selP P l k).length with h2 | h2
      · obtain ⟨j, e, h3, h4⟩ := sel_pos P l i k (by omega) h2
        exact ⟨j, e, by omega, h4⟩
      · refine ⟨k, l[k], by omega, he, hp, ?_⟩
        simp at h
        omega
    · have h2 : i < (selP P l k).length := by rw [selP, he] at h; simpa [hp] using h
      obtain ⟨j, e, h3, h4⟩ := sel_pos P l i k (by omega) h2
      exact ⟨j, e, by omega, h4⟩
theorem opn_sel (P : Nat → Bool) (l : List Ev) (s : ByteArray) : ∀ k, k ≤ l.length → ∀ c : Nat, opn l s k = some (c : Int) → P c = true → opn (selP P l k) s (selP P l k).length = some ((selP P l c).length : Int)
  | 0, _, c, h, _ => by cases h
  | k + 1, hk, c, h, hc => by
    have he : l[k]? = some l[k] := List.getElem?_eq_getElem (by omega)
    rw [opn, he] at h
    dsimp only at h
    have rest : opn l s k = some (c : Int) → ¬ (s = l[k].p ∧ (l[k].k = 1 ∨ l[k].k = 2)) → opn (selP P l (k + 1)) s (selP P l (k + 1)).length = some ((selP P l c).length : Int) := by
      intro h1 h2
      have ih := opn_sel P l s k (by omega) c h1 hc
      by_cases hp : P k = true
      · rw [sel_next P l he hp, List.length_append, List.length_singleton, opn, List.getElem?_append_right (Nat.le_refl _)]
        simp only [Nat.sub_self, List.getElem?_cons_zero]
        rw [opn_prefix _ _ _ _ (Nat.le_refl _), ih]
        by_cases hs : s = l[k].p
        · rw [if_pos hs, if_neg (fun h => h2 ⟨hs, .inl h⟩), if_neg (fun h => h2 ⟨hs, .inr h⟩)]
        · rw [if_neg hs]
      · have e1 : selP P l (k + 1) = selP P l k := by rw [selP, he]; simp [hp]
        rw [e1, ih]
    by_cases hs : s = l[k].p
    · rw [if_pos hs] at h
      by_cases k1 : l[k].k = 1
      · rw [if_pos k1] at h
        have e1 : k = c := by have := Option.some.inj h; omega
        subst e1
        rw [sel_next P l he hc, List.length_append, List.length_singleton, opn, List.getElem?_append_right (Nat.le_refl _)]
        simp only [Nat.sub_self, List.getElem?_cons_zero]
        rw [if_pos hs, if_pos k1]
      · rw [if_neg k1] at h
        by_cases k2 : l[k].k = 2
        · rw [if_pos k2] at h; cases h
        · rw [if_neg k2] at h
          exact rest h (fun h => h.2.elim k1 k2)
    · rw [if_neg hs] at h
      exact rest h (fun h => hs h.1)
theorem callR_sel (P : Nat → Bool) (l : List Ev) {j c : Nat} {e : Ev} (he : l[j]? = some e) (hp : P j = true) (hc : callR l j = c) (hpc : P c = true) : callR (keepP P l) (selP P l j).length = ((selP P l c).length : Int) := by
  obtain ⟨x, hx, kx, ox⟩ := callR_of l j (by omega)
  rw [he] at hx
  cases hx
  rw [hc] at ox
  have h1 := opn_sel P l e.p j (by have := lt_of_get he; omega) c ox hpc
  obtain ⟨t, ht⟩ := sel_prefix P l j l.length (by have := lt_of_get he; omega)
  rw [callR, sel_at P l he hp]
  dsimp only
  rw [if_pos kx, keepP, ht, opn_prefix _ _ _ _ (Nat.le_refl _), h1]
  rfl
theorem keep_id (P : Nat → Bool) (p : List Ev) (h : ∀ i, i < p.length → P i = true) : keepP P p = p := by
  have := keepP_congr (P := P) (R := fun _ => true) (l := p) (fun j hj => h j hj)
  rw [this, keepP_true]
theorem call_inv (l : List Ev) (j : Nat) (h : 0 ≤ callR l j) : ∃ (c : Nat) (y : Ev), callR l j = c ∧ l[c]? = some y ∧ y.k = 1 := by
  obtain ⟨x, hx, kx, ox⟩ := callR_of l j h
  obtain ⟨z, hz, k1, _, _⟩ := opn_of l _ _ _ ox
  exact ⟨(callR l j).toNat, z, (Int.toNat_of_nonneg h).symm, hz, k1⟩
theorem objAt_iff (l : List Ev) (s : ByteArray) (c : Nat) {y : Ev} (hy : l[c]? = some y) : objAtB l s c = ((y.k == 1) && decide (y.o = s)) := by
  rw [objAtB, Int.toNat_natCast, hy]; simp
theorem refObj_eq (l : List Ev) (s : ByteArray) (j : Nat) {e : Ev} (he : l[j]? = some e) : refObjB l s j = objAtB l s (if e.k = 2 then callR l j else (j : Int)) := by
  rw [refObjB, he]
theorem objAt_of (l : List Ev) (s : ByteArray) (z : Int) (h : objAtB l s z = true) : ∃ (c : Nat) (y : Ev), z = c ∧ l[c]? = some y ∧ y.k = 1 ∧ y.o = s := by
  rw [objAtB, Bool.and_eq_true, decide_eq_true_eq] at h
  obtain ⟨h0, h1⟩ := h
  split at h1
  · rename_i y hy
    rw [Bool.and_eq_true, beq_iff_eq, decide_eq_true_eq] at h1
    exact ⟨z.toNat, y, (Int.toNat_of_nonneg h0).symm, hy, h1.1, h1.2⟩
  · cases h1
theorem obj_all (l : List Ev) (s : ByteArray) (i : Nat) (hi : i < (keepP (refObjB l s) l).length) : refObjB (keepP (refObjB l s) l) s i = true := by
  obtain ⟨j, e, hj, he, hp, rfl⟩ := sel_pos _ l i l.length (Nat.le_refl _) hi
  have hpi := sel_at _ l he hp
  rw [refObj_eq _ _ _ hpi]
  have hp' := hp
  rw [refObj_eq l s j he] at hp'
  obtain ⟨c, y, hc, hy, ky, oy⟩ := objAt_of l s _ hp'
  have hpc : refObjB l s c = true := by
    rw [refObj_eq l s c hy, if_neg (by omega), objAt_iff l s c hy]; simp [ky, oy]
  by_cases k2 : e.k = 2
  · rw [if_pos k2] at hc ⊢
    rw [callR_sel _ l he hp hc hpc, objAt_iff _ _ _ (sel_at _ l hy hpc)]
    simp [ky, oy]
  · rw [if_neg k2] at hc ⊢
    have e1 : j = c := by omega
    subst e1
    rw [objAt_iff _ _ _ (sel_at _ l hy hpc)]
    simp [ky, oy]
theorem object_object (l : List Ev) (s : ByteArray) : objectP (objectP l s) s = objectP l s := by
  rw [object_same, object_same]
  exact keep_id _ _ (obj_all l s)
theorem objs_mem (l : List Ev) (s : ByteArray) : ∀ k, k ≤ l.length → (s ∈ selN objOf l k ↔ ∃ j, j < k ∧ ∃ e, l[j]? = some e ∧ e.k = 1 ∧ e.o = s)
  | 0, _ => by simp [selN]
  | k + 1, hk => by
    have ih := objs_mem l s k (by omega)
    have he : l[k]? = some l[k] := List.getElem?_eq_getElem (by omega)
    have hlast : (∃ j, j < k + 1 ∧ ∃ e, l[j]? = some e ∧ e.k = 1 ∧ e.o = s) ↔ ((∃ j, j < k ∧ ∃ e, l[j]? = some e ∧ e.k = 1 ∧ e.o = s) ∨ (l[k].k = 1 ∧ l[k].o = s)) := by
      constructor
      · rintro ⟨j, h1, e, h2, h3⟩
        rcases Nat.lt_or_ge j k with h4 | h4
        · exact .inl ⟨j, h4, e, h2, h3⟩
        · obtain rfl : j = k := by omega
          rw [he] at h2; cases h2; exact .inr h3
      · rintro (⟨j, h1, e, h2, h3⟩ | h)
        · exact ⟨j, by omega, e, h2, h3⟩
        · exact ⟨k, by omega, _, he, h⟩
    rw [hlast, ← ih, selN, he]
    dsimp only
    by_cases hin : (objOf l[k]).2 = true ∧ inS (objOf l[k]).1 (selN objOf l k) = false
    · rw [if_pos hin]
      have h1 : l[k].k = 1 := by have := hin.1; simpa [objOf] using this
      simp [objOf, h1, eq_comm]
    · rw [if_neg hin]
      constructor
      · exact .inl
      · rintro (h | ⟨h1, h2⟩)
        · exact h
        · have : inS l[k].o (selN objOf l k) = true := by
            cases hx : inS l[k].o (selN objOf l k)
            · exact absurd ⟨by simp [objOf, h1], hx⟩ hin
            · rfl
          rw [← h2]; exact (inS_iff _ _).1 this
theorem nodup_one {α : Type} {s : α} : ∀ {l : List α}, l.Nodup → s ∈ l → (∀ x ∈ l, x = s) → l = [s]
  | [], _, h, _ => by cases h
  | [x], _, _, h => by rw [h x List.mem_cons_self]
  | x :: y :: t, hn, _, h => by
    have h1 := h x List.mem_cons_self
    have h2 := h y (List.mem_cons_of_mem _ List.mem_cons_self)
    rw [List.nodup_cons] at hn
    exact absurd (by rw [h1, ← h2]; exact List.mem_cons_self) hn.1
theorem objects_part (l : List Ev) (s : ByteArray) (hs : s ∈ objectsP l) : objectsP (objectP l s) = [s] := by
  rw [object_same]
  refine nodup_one (selN_nodup objOf _ _) ?_ fun x hx => ?_
  · obtain ⟨j, hj, e, he, h1, h2⟩ := (objs_mem l s l.length (Nat.le_refl _)).1 hs
    have hp : refObjB l s j = true := by rw [refObj_eq l s j he, if_neg (by omega), objAt_iff l s j he]; simp [h1, h2]
    have := sel_at _ l he hp
    exact (objs_mem _ s _ (Nat.le_refl _)).2 ⟨_, lt_of_get this, e, this, h1, h2⟩
  · obtain ⟨i, hi, e, he, h1, h2⟩ := (objs_mem _ x _ (Nat.le_refl _)).1 hx
    obtain ⟨j, e', hj, he', hp, rfl⟩ := sel_pos _ l i l.length (Nat.le_refl _) hi
    rw [sel_at _ l he' hp] at he
    cases he
    rw [refObj_eq l s j he', if_neg (by omega), objAt_iff l s j he'] at hp
    simp at hp
    rw [← h2]; exact hp.2
theorem whole_all (l : List Ev) (i : Nat) (hi : i < (keepP (refWholeB l) l).length) : refWholeB (keepP (refWholeB l) l) i = true := by
  obtain ⟨j, e, hj, he, hp, rfl⟩ := sel_pos _ l i l.length (Nat.le_refl _) hi
  have hpi := sel_at _ l he hp
  rw [refWholeB, hpi]
  dsimp only
  have hp' := hp
  rw [refWholeB, he] at hp'
  dsimp only at hp'
  by_cases k1 : e.k = 1
  · have k2 : (e.k == 2) = false := by simp [k1]
    have k1' : (e.k == 1) = true := by simp [k1]
    rw [k1', k2] at hp' ⊢
    have h0 : 0 ≤ replyR l j := by simpa using hp'
    obtain ⟨r, hr, hc⟩ := (replyR_iff l j (lt_of_get he)).1 h0
    obtain ⟨x, hx, kx, _⟩ := callR_of l r (by omega)
    have hpr : refWholeB l r = true := by rw [refWholeB, hx]; simp [kx, hc] <;> omega
    have h1 := callR_sel _ l hx hpr hc hp
    have h2 := (replyR_iff (keepP (refWholeB l) l) (selP (refWholeB l) l j).length hi).2 ⟨_, lt_of_get (sel_at _ l hx hpr), h1⟩
    simp
    exact h2
  · have k1' : (e.k == 1) = false := by simp [k1]
    rw [k1'] at hp' ⊢
    by_cases k2 : e.k = 2
    · have k2' : (e.k == 2) = true := by simp [k2]
      rw [k2'] at hp' ⊢
      have h0 : 0 ≤ callR l j := by simpa using hp'
      obtain ⟨c, y, hc, hy, ky⟩ := call_inv l j h0
      have hpc : refWholeB l c = true := by
        have h1 := (replyR_iff l c (lt_of_get hy)).2 ⟨j, lt_of_get he, hc⟩
        rw [refWholeB, hy]; simp [ky]; exact h1
      rw [callR_sel _ l he hp hc hpc]
      simp <;> omega
    · have k2' : (e.k == 2) = false := by simp [k2]
      rw [k2']; simp
theorem whole_whole (l : List Ev) : wholeP (wholeP l) = wholeP l := by
  rw [whole_same, whole_same]
  exact keep_id _ _ (whole_all l)

/-! ### counting -/
def cntB (l : List Ev) (j : Nat) : Bool := match l[j]? with | none => false | some e => (e.k == 1) || ((e.k == 2) && decide (0 ≤ callR l j))
def mF (l : List Ev) : Nat → Nat
  | 0 => 0
  | k + 1 => mF l k + (if cntB l k = true then 1 else 0)
theorem mF_le (l : List Ev) : ∀ k, mF l k ≤ k
  | 0 => Nat.le_refl _
  | k + 1 => by have := mF_le l k; rw [mF]; split <;> omega
theorem sum_zero {α : Type} (f : α → Nat) : ∀ (o : List α), (∀ s ∈ o, f s = 0) → (o.map f).sum = 0
  | [], _ => rfl
  | x :: xs, h => by simp [h x List.mem_cons_self, sum_zero f xs (fun s hs => h s (List.mem_cons_of_mem _ hs))]
theorem sum_one (x : ByteArray) : ∀ (o : List ByteArray), o.Nodup → x ∈ o → (o.map fun s => if decide (x = s) = true then 1 else 0).sum = 1
  | [], _, h => by cases h
  | y :: ys, hn, h => by
    rw [List.nodup_cons] at hn
    by_cases hxy : x = y
    · subst hxy
      have h0 := sum_zero (fun s => if decide (x = s) = true then 1 else 0) ys (fun s hs => by
        have : ¬ x = s := by rintro rfl; exact hn.1 hs
        simp [this])
      rw [List.map_cons, List.sum_cons, h0]; simp
    · have h1 : x ∈ ys := by rcases List.mem_cons.1 h with h | h; exact absurd h hxy; exact h
      have := sum_one x ys hn.2 h1
      simp only [List.map_cons, List.sum_cons, hxy, decide_false]
      simpa using this
theorem sum_add {α : Type} (f g : α → Nat) : ∀ (o : List α), (o.map fun s => f s + g s).sum = (o.map f).sum + (o.map g).sum
  | [] => rfl
  | x :: xs => by simp [sum_add f g xs]; omega
theorem cover_one (l : List Ev) (k : Nat) (hk : k < l.length) : ((objectsP l).map fun s => if refObjB l s k = true then 1 else 0).sum = if cntB l k = true then 1 else 0 := by
  have he : l[k]? = some l[k] := List.getElem?_eq_getElem hk
  have hmem : ∀ (c : Nat) (y : Ev), l[c]? = some y → y.k = 1 → y.o ∈ objectsP l := fun c y hy ky => (objs_mem l y.o l.length (Nat.le_refl _)).2 ⟨c, lt_of_get hy, y, hy, ky, rfl⟩
  by_cases hc : cntB l k = true
  · rw [if_pos hc]
    have key : ∃ x, x ∈ objectsP l ∧ ∀ s, refObjB l s k = decide (x = s) := by
      rw [cntB, he] at hc
      dsimp only at hc
      by_cases k1 : l[k].k = 1
      · exact ⟨l[k].o, hmem k _ he k1, fun s => by rw [refObj_eq l s k he, if_neg (by omega), objAt_iff l s k he]; simp [k1]⟩
      · have k2 : l[k].k = 2 ∧ 0 ≤ callR l k := by simpa [k1] using hc
        obtain ⟨c, y, h1, hy, ky⟩ := call_inv l k k2.2
        exact ⟨y.o, hmem c y hy ky, fun s => by rw [refObj_eq l s k he, if_pos k2.1, h1, objAt_iff l s c hy]; simp [ky]⟩
    obtain ⟨x, hx, hs⟩ := key
    simp only [hs]
    exact sum_one x _ (selN_nodup objOf l _) hx
  · rw [if_neg hc]
    refine sum_zero _ _ fun s _ => ?_
    rw [if_neg]
    intro h
    rw [refObj_eq l s k he] at h
    obtain ⟨c, y, h1, hy, ky, _⟩ := objAt_of l s _ h
    apply hc
    rw [cntB, he]
    dsimp only
    by_cases k2 : l[k].k = 2
    · rw [if_pos k2] at h1
      have : 0 ≤ callR l k := by omega
      simp [k2, this]
    · rw [if_neg k2] at h1
      have e1 : k = c := by omega
      subst e1
      rw [he] at hy
      cases hy
      simp [ky]
theorem cover_sum (l : List Ev) : ∀ k, k ≤ l.length → ((objectsP l).map fun s => (selP (refObjB l s) l k).length).sum = mF l k
  | 0, _ => sum_zero _ _ fun s _ => by simp [selP]
  | k + 1, h => by
    have he : l[k]? = some l[k] := List.getElem?_eq_getElem (by omega)
    rw [mF, ← cover_sum l k (by omega), ← cover_one l k (by omega), ← sum_add]
    congr 1
    refine List.map_congr_left fun s _ => ?_
    rw [selP, he]
    dsimp only
    by_cases hp : refObjB l s k = true
    · rw [if_pos hp, if_pos hp]; simp
    · rw [if_neg hp, if_neg hp]; simp
def nF (l : List Ev) (i : Nat) : Nat := (((objectsP l).take i).map fun s => (objectP l s).length).sum
theorem nF_succ (l : List Ev) (i : Nat) (hi : i < (objectsP l).length) : nF l (i + 1) = nF l i + (objectP l (objectsP l)[i]).length := by
  rw [nF, nF, List.take_succ_eq_append_getElem hi, List.map_append, List.sum_append]; simp
theorem sum_take_le {α : Type} (f : α → Nat) : ∀ (o : List α) (i : Nat), ((o.take i).map f).sum ≤ (o.map f).sum
  | [], i => by simp
  | x :: xs, 0 => by simp
  | x :: xs, i + 1 => by have := sum_take_le f xs i; rw [List.take_succ_cons, List.map_cons, List.map_cons, List.sum_cons, List.sum_cons]; omega
theorem nF_all (l : List Ev) : nF l (objectsP l).length = mF l l.length := by
  rw [nF, List.take_length, ← cover_sum l l.length (Nat.le_refl _)]
  congr 1
  refine List.map_congr_left fun s _ => ?_
  rw [object_same]; rfl
theorem nF_le (l : List Ev) (i : Nat) : nF l i ≤ l.length := by
  have h1 := sum_take_le (fun s => (objectP l s).length) (objectsP l) i
  have h2 := nF_all l
  rw [nF, List.take_length] at h2
  have := mF_le l l.length
  rw [nF]; omega
end Go.Proofs.Ytifakbipdmceiaa
