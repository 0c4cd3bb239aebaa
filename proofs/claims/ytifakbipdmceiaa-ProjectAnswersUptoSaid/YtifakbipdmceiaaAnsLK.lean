import Derived.Test.YtifakbipdmceiaaRefAnsK
import Derived.Test.YtifakbipdmceiaaJLawA44
set_option linter.unusedVariables false
set_option linter.unusedSimpArgs false
namespace Go.Proofs.Ytifakbipdmceiaa
open Go.RowKit

/-! ### which replies may be laid behind: the program's test is the document's -/
theorem inS_append (s : ByteArray) (xs ys : List ByteArray) : inS s (xs ++ ys) = (inS s xs || inS s ys) := by simp [inS]
theorem goneF_eq (l rs : List Ev) (s : ByteArray) : ∀ m, m ≤ rs.length → goneF l rs s m = if inS s (namesP rs m) = true then none else lastF l s l.length
  | 0, _ => by rw [goneF]; simp [namesP, inS]
  | m + 1, h => by
    have hr : rs[m]? = some rs[m] := List.getElem?_eq_getElem (by omega)
    rw [goneF, hr, namesP_succ rs m (by omega) rfl, inS_append]
    dsimp only
    by_cases hs : s = rs[m].p
    · rw [if_pos hs]
      have : inS s [rs[m].p] = true := by simp [inS, hs]
      rw [this, Bool.or_true, if_pos rfl]
    · rw [if_neg hs, goneF_eq l rs s m (by omega)]
      have : inS s [rs[m].p] = false := by simp [inS]; exact fun h => hs h.symm
      rw [this, Bool.or_false]
theorem lastF_of (l : List Ev) (s : ByteArray) : ∀ (k : Nat) (i : Int), k ≤ l.length → lastF l s k = some i → (∃ e, l[i.toNat]? = some e ∧ e.p = s) ∧ ∀ (j : Nat) (y : Ev), i < (j : Int) → j < k → l[j]? = some y → y.p ≠ s
  | 0, i, _, h => by cases h
  | k + 1, i, hk, h => by
    have hek : l[k]? = some l[k] := List.getElem?_eq_getElem (by omega)
    rw [lastF, hek] at h
    dsimp only at h
    by_cases hs : s = l[k].p
    · rw [if_pos hs] at h
      cases h
      exact ⟨⟨l[k], by simp [hek], hs.symm⟩, fun j y h1 h2 => by omega⟩
    · rw [if_neg hs] at h
      obtain ⟨h1, h2⟩ := lastF_of l s k i (by omega) h
      refine ⟨h1, fun j y h3 h4 h5 => ?_⟩
      rcases Nat.lt_or_ge j k with h6 | h6
      · exact h2 j y h3 h6 h5
      · obtain rfl : j = k := by omega
        rw [hek] at h5
        cases h5
        exact fun h7 => hs h7.symm
/-- A process's last event, if it is an invocation, is pending. -/
theorem last_open (l : List Ev) (s : ByteArray) (i : Int) (e : Ev) (h : lastF l s l.length = some i) (he : l[i.toNat]? = some e) (hk : e.k = 1) : ∃ t, (callsP l)[i.toNat]? = some t ∧ t < 0 := by
  obtain ⟨⟨e', he', hp⟩, hlast⟩ := lastF_of l s l.length i (Nat.le_refl _) h
  rw [he] at he'
  cases he'
  have hi := lastF_lt l s _ i h
  obtain ⟨t, ht, hiff⟩ := toF_inv l he (by omega) l.length (lt_of_get he) (Nat.le_refl _)
  refine ⟨t, ht, Int.not_le.1 fun h0 => ?_⟩
  obtain ⟨r, hr, hc⟩ := hiff.1 h0
  obtain ⟨x, hx, kx, ox⟩ := callR_of l r (by omega)
  obtain ⟨z, hz, _, pz, _⟩ := opn_of l _ _ _ ox
  rw [hc, Int.toNat_natCast, he] at hz
  cases hz
  have h2 := (callR_lt l r).2
  exact hlast r x (by omega) hr hx (pz.symm.trans hp)
theorem ok_same (l rs : List Ev) (m : Nat) (hm : m < rs.length) : okR l rs m = true ↔ okF l rs m := by
  have hr : rs[m]? = some rs[m] := List.getElem?_eq_getElem hm
  rw [okR, okF, hr]
  dsimp only
  rw [goneF_eq l rs _ m (by omega), Bool.and_eq_true, Bool.and_eq_true, beq_iff_eq]
  constructor
  · rintro ⟨⟨h1, h2⟩, h3⟩
    refine ⟨rs[m], rfl, h1, ?_, ?_, h3⟩
    · split at h2
      · cases h2
      · rename_i i hi
        split at hi
        · cases hi
        · rw [Bool.and_eq_true] at h2
          have h4 := h2.1
          split at h4
          · rename_i e he
            exact ⟨i, e, hi, he, by simpa using h4⟩
          · cases h4
    · cases hin : inS rs[m].p (namesP rs m)
      · rfl
      · rw [hin, if_pos rfl] at h2; cases h2
  · rintro ⟨r, h0, h1, ⟨i, e, h2, h3, h4⟩, h5, h6⟩
    cases h0
    refine ⟨⟨h1, ?_⟩, h6⟩
    obtain ⟨t, ht, hneg⟩ := last_open l _ i e h2 h3 h4
    rw [h5, if_neg (by simp), h2]
    dsimp only
    rw [h3, ht]
    simp [h4, hneg]
theorem ans_same (l rs : List Ev) : ansB l rs = true ↔ ransP l rs := by
  rw [ansB, List.all_eq_true]
  exact ⟨fun h m hm => (ok_same l rs m hm).1 (h m (List.mem_range.2 hm)), fun h m hm => (ok_same l rs m (List.mem_range.1 hm)).2 (h m (List.mem_range.1 hm))⟩
theorem selP_all (l : List Ev) : ∀ k, k ≤ l.length → selP (fun _ => true) l k = l.take k
  | 0, _ => by simp [selP]
  | k + 1, h => by
    have he : l[k]? = some l[k] := List.getElem?_eq_getElem (by omega)
    rw [selP, he, selP_all l k (by omega), List.take_succ_eq_append_getElem (by omega)]
    simp
theorem copyP_self (l : List Ev) : copyP l = l := by
  rw [copyP, keepP, selP_all l l.length (Nat.le_refl _), List.take_length]
end Go.Proofs.Ytifakbipdmceiaa
