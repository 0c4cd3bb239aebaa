import Derived.Test.YtifakbipdmceiaaJLawA35
import Derived.Test.YtifakbipdmceiaaJLawA42
import Derived.Test.YtifakbipdmceiaaJLawA43
set_option linter.unusedVariables false
set_option linter.unusedSimpArgs false
namespace Go.Proofs.Ytifakbipdmceiaa
open Go.RowKit

/-! ### the reference's Keeps, beside the program's -/
def rkIn (a b : List Ev) (s : Int) : Nat → Nat → Bool
  | 0, _ => true
  | f + 1, k => match a[k]? with
    | none => true
    | some e => if e.k = 1 ∧ placeR b e.p (nInv a e.p k) < s then false else rkIn a b s f (k + 1)
/-- where the reply of response r's call stands in b -/
def repB (a b : List Ev) (e : Ev) (r : Nat) : Int := replyR b (placeR b e.p (nInv a e.p (callR a r).toNat))
def rkOut (a b : List Ev) : Nat → Nat → Bool
  | 0, _ => true
  | f + 1, r => if callR a r < 0 then rkOut a b f (r + 1) else match a[(callR a r).toNat]? with
    | none => rkOut a b f (r + 1)
    | some e => rkIn a b (repB a b e r) (a.length - (r + 1)) (r + 1) && rkOut a b f (r + 1)
def rkeepsB (a b : List Ev) : Bool := rkOut a b a.length 0
theorem rkIn_iff (a b : List Ev) (s : Int) : ∀ f k, (rkIn a b s f k = true ↔ ∀ m e, k ≤ m → m < k + f → a[m]? = some e → e.k = 1 → ¬ placeR b e.p (nInv a e.p m) < s)
  | 0, k => ⟨fun _ m e h1 h2 => by omega, fun _ => rfl⟩
  | f + 1, k => by
    rw [rkIn]
    cases he : a[k]? with
    | none =>
      refine ⟨fun _ m e h1 h2 h3 => ?_, fun _ => rfl⟩
      have h4 : a.length ≤ k := by simpa using he
      rw [List.getElem?_eq_none (by omega)] at h3; cases h3
    | some e =>
      dsimp only
      by_cases h : e.k = 1 ∧ placeR b e.p (nInv a e.p k) < s
      · rw [if_pos h]
        exact ⟨fun h2 => (by cases h2), fun h2 => absurd h.2 (h2 k e (Nat.le_refl _) (by omega) he h.1)⟩
      · rw [if_neg h, rkIn_iff a b s f (k + 1)]
        constructor
        · intro h2 m e' h3 h4 h5 h6
          rcases Nat.eq_or_lt_of_le h3 with rfl | h7
          · rw [he] at h5; cases h5
            exact fun h8 => h ⟨h6, h8⟩
          · exact h2 m e' h7 (by omega) h5 h6
        · intro h2 m e' h3 h4; exact h2 m e' (by omega) (by omega)
theorem rkOut_iff (a b : List Ev) : ∀ f r, (rkOut a b f r = true ↔ ∀ m e, r ≤ m → m < r + f → 0 ≤ callR a m → a[(callR a m).toNat]? = some e → rkIn a b (repB a b e m) (a.length - (m + 1)) (m + 1) = true)
  | 0, r => ⟨fun _ m e h1 h2 => by omega, fun _ => rfl⟩
  | f + 1, r => by
    have ih := rkOut_iff a b f (r + 1)
    have key : rkOut a b f (r + 1) = true → (∀ e, 0 ≤ callR a r → a[(callR a r).toNat]? = some e → rkIn a b (repB a b e r) (a.length - (r + 1)) (r + 1) = true) →
        ∀ m e, r ≤ m → m < r + (f + 1) → 0 ≤ callR a m → a[(callR a m).toNat]? = some e → rkIn a b (repB a b e m) (a.length - (m + 1)) (m + 1) = true := by
      intro h1 h2 m e h3 h4 h5 h6
      rcases Nat.eq_or_lt_of_le h3 with rfl | h7
      · exact h2 e h5 h6
      · exact ih.1 h1 m e h7 (by omega) h5 h6
    have back : (∀ m e, r ≤ m → m < r + (f + 1) → 0 ≤ callR a m → a[(callR a m).toNat]? = some e → rkIn a b (repB a b e m) (a.length - (m + 1)) (m + 1) = true) → rkOut a b f (r + 1) = true :=
      fun h => ih.2 fun m e h1 h2 => h m e (by omega) (by omega)
    rw [rkOut]
    by_cases h0 : callR a r < 0
    · rw [if_pos h0]
      exact ⟨fun h => key h fun e h2 => by omega, back⟩
    · rw [if_neg h0]
      cases he : a[(callR a r).toNat]? with
      | none => exact ⟨fun h => key h fun e h2 h3 => (by rw [he] at h3; cases h3), back⟩
      | some e =>
        dsimp only
        rw [Bool.and_eq_true]
        exact ⟨fun h => key h.2 fun e' h2 h3 => (by rw [he] at h3; cases h3; exact h.1), fun h => ⟨h r e (Nat.le_refl _) (by omega) (by omega) he, back h⟩⟩

/-! ### invocations by their numbers -/
theorem nInv_mono (l : List Ev) (s : ByteArray) (j : Nat) : ∀ k, j ≤ k → nInv l s j ≤ nInv l s k
  | 0, h => by obtain rfl : j = 0 := by omega
               exact Nat.le_refl _
  | k + 1, h => by
    rcases Nat.eq_or_lt_of_le h with rfl | h2
    · exact Nat.le_refl _
    · have ih := nInv_mono l s j k (by omega)
      rw [nInv]
      split
      · exact ih
      · split <;> omega
theorem nInv_at (l : List Ev) {i : Nat} {e : Ev} (he : l[i]? = some e) (h1 : e.k = 1) : nInv l e.p (i + 1) = nInv l e.p i + 1 := by
  rw [nInv, he]; simp [h1]
theorem nInv_lt (l : List Ev) {i k : Nat} {e : Ev} (he : l[i]? = some e) (h1 : e.k = 1) (h : i < k) : nInv l e.p i < nInv l e.p k := by
  have := nInv_mono l e.p (i + 1) k (by omega)
  rw [nInv_at l he h1] at this
  omega
theorem inv_one (l : List Ev) {i j : Nat} {x y : Ev} (hx : l[i]? = some x) (hy : l[j]? = some y) (kx : x.k = 1) (ky : y.k = 1) (hp : x.p = y.p) (hn : nInv l x.p i = nInv l x.p j) : i = j := by
  rcases Nat.lt_trichotomy i j with h | h | h
  · have := nInv_lt l hx kx h; omega
  · exact h
  · have := nInv_lt l hy ky h; rw [← hp] at this; omega
theorem lt_of_get {l : List Ev} {i : Nat} {e : Ev} (h : l[i]? = some e) : i < l.length := by
  rcases Nat.lt_or_ge i l.length with h1 | h1
  · exact h1
  · rw [List.getElem?_eq_none h1] at h; cases h
theorem spanF_at (l : List Ev) {i : Nat} {e : Ev} (he : l[i]? = some e) (h1 : e.k = 1) : ∀ k, i < k → k ≤ l.length → spanF l k e.p (nInv l e.p i : Nat) = some ((i : Int), (callsP l).getD i 0)
  | 0, h, _ => by omega
  | k + 1, h, hk => by
    have hek : l[k]? = some l[k] := List.getElem?_eq_getElem (by omega)
    rw [spanF, hek]
    dsimp only
    rcases Nat.lt_or_ge i k with h2 | h2
    · rw [if_neg, spanF_at l he h1 k h2 (by omega)]
      rintro ⟨h3, h4, h5⟩
      have := nInv_lt l he h1 h2
      rw [← h4] at h5
      omega
    · obtain rfl : i = k := by omega
      rw [hek] at he
      cases he
      rw [if_pos ⟨h1, rfl, rfl⟩]
theorem spanF_of (l : List Ev) (s : ByteArray) (n : Int) (p : Int × Int) : ∀ k, spanF l k s n = some p → ∃ i e, l[i]? = some e ∧ e.k = 1 ∧ e.p = s ∧ n = (nInv l s i : Int) ∧ p = ((i : Int), (callsP l).getD i 0)
  | 0, h => by cases h
  | k + 1, h => by
    rw [spanF] at h
    split at h
    · exact spanF_of l s n p k h
    · rename_i e he
      split at h
      · rename_i h2
        cases h
        exact ⟨k, e, he, h2.1, h2.2.1.symm, by rw [h2.2.1]; exact h2.2.2, rfl⟩
      · exact spanF_of l s n p k h
theorem placeF_at (l : List Ev) {i : Nat} {e : Ev} (he : l[i]? = some e) (h1 : e.k = 1) : ∀ f k, k ≤ i → i < k + f → placeF l e.p (nInv l e.p i) f k = i
  | 0, k, h2, h3 => by omega
  | f + 1, k, h2, h3 => by
    have hi := lt_of_get he
    have hek : l[k]? = some l[k] := List.getElem?_eq_getElem (by omega)
    rw [placeF, hek]
    dsimp only
    by_cases h : l[k].p = e.p ∧ l[k].k = 1 ∧ nInv l e.p i = nInv l e.p k
    · rw [if_pos h]
      have := inv_one l he hek h1 h.2.1 h.1.symm h.2.2
      omega
    · rw [if_neg h]
      have hne : k ≠ i := by
        intro hki
        have h5 : l[k] = e := Option.some.inj (hek.symm.trans ((congrArg (fun j => l[j]?) hki).trans he))
        exact h ⟨by rw [h5], by rw [h5]; exact h1, by rw [hki]⟩
      exact placeF_at l he h1 f (k + 1) (by omega) (by omega)
theorem place_at (l : List Ev) {i : Nat} {e : Ev} (he : l[i]? = some e) (h1 : e.k = 1) : placeR l e.p (nInv l e.p i) = i :=
  placeF_at l he h1 l.length 0 (by omega) (by have := lt_of_get he; omega)
theorem placeF_bd (l : List Ev) (s : ByteArray) (n : Nat) : ∀ f k, -1 ≤ placeF l s n f k ∧ placeF l s n f k < l.length
  | 0, k => by rw [placeF]; omega
  | f + 1, k => by
    rw [placeF]
    split
    · omega
    · rename_i e he
      have := lt_of_get he
      split
      · omega
      · exact placeF_bd l s n f (k + 1)
theorem place_bd (l : List Ev) (s : ByteArray) (n : Nat) : -1 ≤ placeR l s n ∧ placeR l s n < l.length := placeF_bd l s n _ _

/-! ### calls and their replies -/
theorem opn_of (l : List Ev) (s : ByteArray) : ∀ (k : Nat) (i : Int), opn l s k = some i → ∃ e, l[i.toNat]? = some e ∧ e.k = 1 ∧ e.p = s ∧ nInv l s i.toNat + 1 = nInv l s k
  | 0, i, h => by cases h
  | k + 1, i, h => by
    rw [opn] at h
    rw [nInv]
    split at h
    · rename_i he
      simp only [he]
      exact opn_of l s k i h
    · rename_i e he
      simp only [he]
      split at h
      · rename_i hs
        split at h
        · rename_i h1
          cases h
          refine ⟨e, by simpa using he, h1, hs.symm, ?_⟩
          rw [if_pos ⟨h1, hs.symm⟩]
          simp
        · rename_i h1
          split at h
          · cases h
          · rw [if_neg (fun h => h1 h.1)]
            exact opn_of l s k i h
      · rename_i hs
        rw [if_neg (fun h => hs h.2.symm)]
        exact opn_of l s k i h
theorem opn_past (l : List Ev) {r : Nat} {er : Ev} (hr : l[r]? = some er) (hk : er.k = 2) : ∀ (n : Nat) (i : Int), opn l er.p n = some i → r < n → (r : Int) < i
  | 0, i, h, h2 => by omega
  | n + 1, i, h, h2 => by
    have hn : n < l.length ∨ l.length ≤ n := by omega
    rw [opn] at h
    rcases Nat.lt_or_ge r n with h3 | h3
    · split at h
      · exact opn_past l hr hk n i h h3
      · rename_i e he
        split at h
        · split at h
          · cases h; omega
          · split at h
            · cases h
            · exact opn_past l hr hk n i h h3
        · exact opn_past l hr hk n i h h3
    · obtain rfl : r = n := by omega
      rw [hr] at h
      simp [hk] at h
theorem callR_of (l : List Ev) (r : Nat) (h : 0 ≤ callR l r) : ∃ er, l[r]? = some er ∧ er.k = 2 ∧ opn l er.p r = some (callR l r) := by
  unfold callR at h ⊢
  cases he : l[r]? with
  | none => rw [he] at h; simp at h
  | some e =>
    rw [he] at h
    dsimp only at h ⊢
    by_cases hk : e.k = 2
    · rw [if_pos hk] at h ⊢
      cases ho : opn l e.p r with
      | none => rw [ho] at h; simp at h
      | some i => exact ⟨e, rfl, hk, by rw [ho]; rfl⟩
    · rw [if_neg hk] at h; omega
theorem callR_one (l : List Ev) {r s : Nat} (h : callR l r = callR l s) (h0 : 0 ≤ callR l r) : r = s := by
  have key : ∀ r s : Nat, callR l r = callR l s → 0 ≤ callR l r → ¬ r < s := by
    intro r s h h0 hlt
    obtain ⟨x, hx, kx, ox⟩ := callR_of l r h0
    obtain ⟨y, hy, ky, oy⟩ := callR_of l s (by omega)
    obtain ⟨z, hz, _, pz, _⟩ := opn_of l _ _ _ ox
    obtain ⟨z', hz', _, pz', _⟩ := opn_of l _ _ _ oy
    rw [← h, hz] at hz'
    cases hz'
    have h2 := opn_past l hx kx s (callR l r) (by rw [← pz, pz', h]; exact oy) hlt
    have := (callR_lt l r).2
    omega
  rcases Nat.lt_trichotomy r s with h1 | h1 | h1
  · exact absurd h1 (key r s h h0)
  · exact h1
  · exact absurd h1 (key s r h.symm (by omega))
theorem replyF_at (l : List Ev) (c : Int) (r : Nat) (hr : callR l r = c) (h0 : 0 ≤ c) : ∀ f k, k ≤ r → r < k + f → replyF l c f k = r
  | 0, k, h1, h2 => by omega
  | f + 1, k, h1, h2 => by
    rw [replyF]
    by_cases h : callR l k = c
    · rw [if_pos h, callR_one l (h.trans hr.symm) (by omega)]
    · rw [if_neg h]
      have : k ≠ r := by rintro rfl; exact h hr
      exact replyF_at l c r hr h0 f (k + 1) (by omega) (by omega)
theorem reply_at (l : List Ev) (c r : Nat) (hr : callR l r = c) (hl : r < l.length) : replyR l c = r := by
  have := (callR_lt l r).2
  exact replyF_at l c r hr (by omega) _ _ (by omega) (by omega)
/-- What the row says of an invocation that is answered. -/
theorem toF_ans (l : List Ev) {j : Nat} {e : Ev} (he : l[j]? = some e) (hk : ¬ e.k = 2) : ∀ n, j < n → n ≤ l.length → ∃ t, (toF l n)[j]? = some t ∧ (0 ≤ t → callR l t.toNat = j)
  | 0, h, _ => by omega
  | n + 1, h, hn => by
    have hl := toF_len l n
    have hen : l[n]? = some l[n] := List.getElem?_eq_getElem (by omega)
    rw [toF, hen]
    rcases Nat.lt_or_ge j n with h1 | h1
    · obtain ⟨t, ht, hiff⟩ := toF_ans l he hk n h1 (by omega)
      have hne : n ≠ j := by omega
      dsimp only
      split
      · rename_i hk2
        split
        · rename_i i hi
          have hci : callR l n = i := by simp [callR, hen, hk2, hi]
          have h0 := opn_lt l _ _ _ hi
          by_cases hij : i.toNat = j
          · exact ⟨n, by simp [List.getElem?_set, hij, hne, hl]; omega, fun _ => by simp [hci]; omega⟩
          · exact ⟨t, by simp [List.getElem?_set, hne, hij, ht], hiff⟩
        · exact ⟨t, by simp [List.getElem?_set, hne, ht], hiff⟩
      · exact ⟨t, by simp [List.getElem?_set, hne, ht], hiff⟩
    · obtain rfl : j = n := by omega
      rw [hen] at he
      cases he
      dsimp only
      rw [if_neg hk]
      exact ⟨-1, by simp [List.getElem?_set, hl]; omega, fun h => by omega⟩
theorem calls_ans (l : List Ev) {j : Nat} {e : Ev} (he : l[j]? = some e) (hk : e.k = 1) :
    (0 ≤ (callsP l).getD j 0 ↔ ∃ r, r < l.length ∧ callR l r = j) ∧ (0 ≤ (callsP l).getD j 0 → callR l ((callsP l).getD j 0).toNat = j) := by
  have hj := lt_of_get he
  obtain ⟨t, ht, h1⟩ := toF_ans l he (by omega) l.length hj (Nat.le_refl _)
  obtain ⟨t', ht', h2⟩ := toF_inv l he (by omega) l.length hj (Nat.le_refl _)
  rw [ht] at ht'
  cases ht'
  have e1 : (callsP l).getD j 0 = t := by rw [List.getD_eq_getElem?_getD]; show ((toF l l.length)[j]?).getD 0 = t; rw [ht]; rfl
  rw [e1]
  exact ⟨h2, h1⟩

/-! ### what is answered, told by a process's own events -/
def stS (st : Nat × Bool × List Nat) (e : Ev) : Nat × Bool × List Nat :=
  if e.k = 1 then (st.1 + 1, true, st.2.2) else if e.k = 2 then (st.1, false, if st.2.1 = true then st.2.2 ++ [st.1 - 1] else st.2.2) else st
def stF (l : List Ev) : Nat × Bool × List Nat := l.foldl stS (0, false, [])
theorem stF_snoc (l : List Ev) (e : Ev) : stF (l ++ [e]) = stS (stF l) e := by simp [stF, List.foldl_append]
theorem stF_same : ∀ {xs ys : List Ev}, sameEs xs ys = true → ∀ st, xs.foldl stS st = ys.foldl stS st
  | [], [], _, _ => rfl
  | [], _ :: _, h, _ => by simp [sameEs] at h
  | _ :: _, [], h, _ => by simp [sameEs] at h
  | x :: xs, y :: ys, h, st => by
    simp only [sameEs, Bool.and_eq_true] at h
    have hk := ((sameE_iff x y).1 h.1).1
    simp only [List.foldl_cons]
    rw [show stS st x = stS st y by unfold stS; rw [hk]]
    exact stF_same h.2 _
theorem stF_is (l : List Ev) (s : ByteArray) : ∀ k, k ≤ l.length → (stF (selP (procB l s) l k)).1 = nInv l s k ∧ (stF (selP (procB l s) l k)).2.1 = (opn l s k).isSome ∧
    ∀ n, n ∈ (stF (selP (procB l s) l k)).2.2 ↔ ∃ r, r < k ∧ 0 ≤ callR l r ∧ ∃ e, l[(callR l r).toNat]? = some e ∧ e.p = s ∧ nInv l s (callR l r).toNat = n
  | 0, _ => ⟨rfl, rfl, fun n => by simp [selP, stF]⟩
  | k + 1, hk => by
    obtain ⟨h1, h2, h3⟩ := stF_is l s k (by omega)
    have hek : l[k]? = some l[k] := List.getElem?_eq_getElem (by omega)
    have hpb : procB l s k = decide (l[k].p = s) := by rw [procB, hek]
    have grow : ∀ n, (∃ r, r < k + 1 ∧ 0 ≤ callR l r ∧ ∃ e, l[(callR l r).toNat]? = some e ∧ e.p = s ∧ nInv l s (callR l r).toNat = n) ↔
        ((∃ r, r < k ∧ 0 ≤ callR l r ∧ ∃ e, l[(callR l r).toNat]? = some e ∧ e.p = s ∧ nInv l s (callR l r).toNat = n) ∨ (0 ≤ callR l k ∧ ∃ e, l[(callR l k).toNat]? = some e ∧ e.p = s ∧ nInv l s (callR l k).toNat = n)) := by
      intro n
      constructor
      · rintro ⟨r, hr, h⟩
        rcases Nat.lt_or_ge r k with h4 | h4
        · exact .inl ⟨r, h4, h⟩
        · obtain rfl : r = k := by omega
          exact .inr h
      · rintro (⟨r, hr, h⟩ | h)
        · exact ⟨r, by omega, h⟩
        · exact ⟨k, by omega, h⟩
    have none_ : ¬ (l[k].k = 2 ∧ l[k].p = s ∧ (opn l s k).isSome = true) → ∀ n, ¬ (0 ≤ callR l k ∧ ∃ e, l[(callR l k).toNat]? = some e ∧ e.p = s ∧ nInv l s (callR l k).toNat = n) := by
      rintro hn n ⟨h4, e, h5, h6, _⟩
      obtain ⟨x, hx, kx, ox⟩ := callR_of l k h4
      rw [hek] at hx
      cases hx
      obtain ⟨z, hz, _, pz, _⟩ := opn_of l _ _ _ ox
      rw [hz] at h5
      cases h5
      have hp : l[k].p = s := pz.symm.trans h6
      rw [hp] at ox
      exact hn ⟨kx, hp, by rw [ox]; rfl⟩
    rw [selP, nInv, opn, hek]
    dsimp only
    rw [hpb]
    by_cases hp : l[k].p = s
    · have hps : s = l[k].p := hp.symm
      rw [if_pos (by simp [hp]), if_pos hps, stF_snoc, stS]
      by_cases k1 : l[k].k = 1
      · rw [if_pos k1, if_pos k1, if_pos ⟨k1, hp⟩]
        refine ⟨by simp [h1], rfl, fun n => ?_⟩
        rw [grow n]
        have := none_ (fun h => by omega) n
        simp only [this, or_false]
        exact h3 n
      · rw [if_neg k1, if_neg k1, if_neg (show ¬ (l[k].k = 1 ∧ l[k].p = s) from fun h => k1 h.1)]
        by_cases k2 : l[k].k = 2
        · rw [if_pos k2, if_pos k2]
          refine ⟨h1, rfl, fun n => ?_⟩
          rw [grow n]
          dsimp only
          cases ho : opn l s k with
          | none =>
            have := none_ (fun h => by rw [ho] at h; simp at h) n
            rw [ho] at h2
            rw [if_neg (by rw [h2]; simp)]
            simp only [this, or_false]
            exact h3 n
          | some i =>
            rw [ho] at h2
            rw [if_pos (by rw [h2]; rfl), List.mem_append, h3 n, h1]
            obtain ⟨z, hz, _, pz, hnz⟩ := opn_of l _ _ _ ho
            have h0 := opn_lt l _ _ _ ho
            have hc : callR l k = i := by simp [callR, hek, k2, hp, ho]
            rw [hc]
            constructor
            · rintro (h | h)
              · exact .inl h
              · refine .inr ⟨h0.1, z, hz, pz, ?_⟩
                have := List.mem_singleton.1 h
                omega
            · rintro (h | ⟨_, e, h5, h6, h7⟩)
              · exact .inl h
              · refine .inr (List.mem_singleton.2 ?_)
                omega
        · rw [if_neg k2, if_neg k2]
          refine ⟨h1, h2, fun n => ?_⟩
          rw [grow n]
          have := none_ (fun h => k2 h.1) n
          simp only [this, or_false]
          exact h3 n
    · have hps : ¬ s = l[k].p := fun h => hp h.symm
      rw [if_neg (by simp [hp]), if_neg hps, if_neg (show ¬ (l[k].k = 1 ∧ l[k].p = s) from fun h => hp h.2)]
      refine ⟨h1, h2, fun n => ?_⟩
      rw [grow n]
      have := none_ (fun h => hp h.2.1) n
      simp only [this, or_false]
      exact h3 n
theorem alike_proc {a b : List Ev} (h : alikeP a b = true) (s : ByteArray) (hs : s ∈ procsP a) : stF (procP a s) = stF (procP b s) := stF_same (((alike_iff a b).1 h).2 s hs).2 _
theorem mem_procs (a : List Ev) {i : Nat} {e : Ev} (he : a[i]? = some e) : e.p ∈ procsP a := (procs_mem a e.p a.length (Nat.le_refl _)).2 ⟨i, lt_of_get he, e, he, rfl⟩
/-- The same call of the other history. -/
theorem alike_inv {a b : List Ev} (h : alikeP a b = true) {i : Nat} {e : Ev} (he : a[i]? = some e) (h1 : e.k = 1) :
    ∃ j y, b[j]? = some y ∧ y.k = 1 ∧ y.p = e.p ∧ nInv b e.p j = nInv a e.p i ∧ placeR b e.p (nInv a e.p i) = j := by
  have hsp : (spansP a e.p (nInv a e.p i : Nat)).isSome = true := by
    rw [spansP, spanF_at a he h1 a.length (lt_of_get he) (Nat.le_refl _)]; rfl
  have hb := alike_some h (e.p, ((nInv a e.p i : Nat) : Int)) hsp
  obtain ⟨p, hp⟩ := Option.isSome_iff_exists.1 hb
  obtain ⟨j, y, h2, h3, h4, h5, _⟩ := spanF_of b _ _ p _ hp
  dsimp only at h4 h5
  have h6 : nInv b e.p j = nInv a e.p i := by omega
  refine ⟨j, y, h2, h3, h4, h6, ?_⟩
  rw [← h6]
  have := place_at b h2 h3
  rw [h4] at this
  exact this
theorem alike_ans {a b : List Ev} (h : alikeP a b = true) {r c : Nat} {e : Ev} (hr : r < a.length) (hc : callR a r = c) (he : a[c]? = some e) {j : Nat} {y : Ev} (hj : b[j]? = some y) (hy : y.k = 1) (hp : y.p = e.p) (hn : nInv b e.p j = nInv a e.p c) :
    ∃ r', r' < b.length ∧ callR b r' = j := by
  have h1 := (stF_is a e.p a.length (Nat.le_refl _)).2.2 (nInv a e.p c)
  have h2 := (stF_is b e.p b.length (Nat.le_refl _)).2.2 (nInv a e.p c)
  have h3 : stF (selP (procB a e.p) a a.length) = stF (selP (procB b e.p) b b.length) := alike_proc h e.p (mem_procs a he)
  rw [← h3] at h2
  obtain ⟨r', h4, h5, z, h6, h7, h8⟩ := h2.1 (h1.2 ⟨r, hr, by omega, e, by rw [hc]; exact he, rfl, by rw [hc]; rfl⟩)
  refine ⟨r', h4, ?_⟩
  obtain ⟨x, hx, kx, ox⟩ := callR_of b r' h5
  obtain ⟨z', hz', kz', _, _⟩ := opn_of b _ _ _ ox
  rw [hz'] at h6
  cases h6
  have := inv_one b hz' hj kz' hy (h7.trans hp.symm) (by rw [h7, h8, hn])
  omega
/-- Behind Alike the reference's Keeps is the program's. -/
theorem rkeeps_same {a b : List Ev} (h : alikeP a b = true) : rkeepsB a b = keepsB (spansP a) (spansP b) := by
  have key : rkeepsB a b = true ↔ noViol (spansP a) (spansP b) := by
    rw [rkeepsB, rkOut_iff]
    constructor
    · rintro hall c d ⟨p, q, hp, hq, h0, h1, h2⟩
      obtain ⟨i, e, he, ke, pe, ne, rfl⟩ := spanF_of a _ _ p _ hp
      obtain ⟨m, y, hy, ky, py, ny, rfl⟩ := spanF_of a _ _ q _ hq
      dsimp only at h0 h1
      have hans := (calls_ans a he ke).2 h0
      obtain ⟨r, hr⟩ : ∃ r : Nat, (callsP a).getD i 0 = r := ⟨_, (Int.toNat_of_nonneg h0).symm⟩
      rw [hr] at hans h1
      simp only [Int.toNat_natCast] at hans
      have hml := lt_of_get hy
      have hin := hall r e (by omega) (by omega) (by omega) (by rw [hans]; exact he)
      rw [rkIn_iff] at hin
      have hm := hin m y (by omega) (by omega) hy ky
      obtain ⟨i', e', he', ke', pe', ne', ple'⟩ := alike_inv h he ke
      obtain ⟨m', y', hy', ky', py', ny', ply'⟩ := alike_inv h hy ky
      obtain ⟨r', hr', hcr'⟩ := alike_ans h (by omega) hans he he' ke' pe' ne'
      rw [repB, hans, Int.toNat_natCast, ple', reply_at b i' r' hcr' hr', ply'] at hm
      have g1 : spansP b c.1 c.2 = some ((i' : Int), (callsP b).getD i' 0) := by
        have := spanF_at b he' ke' b.length (lt_of_get he') (Nat.le_refl _)
        rw [pe', ne'] at this
        rw [spansP, ne, ← pe]
        exact this
      have g2 : spansP b d.1 d.2 = some ((m' : Int), (callsP b).getD m' 0) := by
        have := spanF_at b hy' ky' b.length (lt_of_get hy') (Nat.le_refl _)
        rw [py', ny'] at this
        rw [spansP, ny, ← py]
        exact this
      have g3 : (callsP b).getD i' 0 = r' := by
        have h5 := calls_ans b he' ke'
        have h6 := h5.1.2 ⟨r', hr', hcr'⟩
        have h7 := callR_one b ((h5.2 h6).trans hcr'.symm) (by rw [h5.2 h6]; omega)
        omega
      rw [g1, g2] at h2
      simp only [Option.getD_some, g3] at h2
      obtain ⟨x, hx, kx, _⟩ := callR_of b r' (by omega)
      have hne : m' ≠ r' := by
        rintro rfl
        rw [hx] at hy'
        cases hy'
        omega
      omega
    · intro hn r e h0 hrl hc he
      rw [rkIn_iff]
      intro m y h1 h2 hy ky hlt
      obtain ⟨c, hcc⟩ : ∃ c : Nat, callR a r = c := ⟨_, (Int.toNat_of_nonneg hc).symm⟩
      rw [hcc, Int.toNat_natCast] at he
      obtain ⟨x, hx, kx, ox⟩ := callR_of a r hc
      obtain ⟨z, hz, kz, _, _⟩ := opn_of a _ _ _ ox
      rw [hcc, Int.toNat_natCast, he] at hz
      cases hz
      obtain ⟨i', e', he', ke', pe', ne', ple'⟩ := alike_inv h he kz
      obtain ⟨m', y', hy', ky', py', ny', ply'⟩ := alike_inv h hy ky
      obtain ⟨r', hr', hcr'⟩ := alike_ans h (by omega) hcc he he' ke' pe' ne'
      rw [repB, hcc, Int.toNat_natCast, ple', reply_at b i' r' hcr' hr', ply'] at hlt
      have g3 : ∀ (l : List Ev) (i r : Nat) (e : Ev), l[i]? = some e → e.k = 1 → r < l.length → callR l r = i → (callsP l).getD i 0 = r := by
        intro l i r e he ke hr hcr
        have h5 := calls_ans l he ke
        have h6 := h5.1.2 ⟨r, hr, hcr⟩
        have h7 := callR_one l ((h5.2 h6).trans hcr.symm) (by rw [h5.2 h6]; omega)
        omega
      refine hn (e.p, ((nInv a e.p c : Nat) : Int)) (y.p, ((nInv a y.p m : Nat) : Int)) ⟨_, _, spanF_at a he kz a.length (lt_of_get he) (Nat.le_refl _), spanF_at a hy ky a.length (lt_of_get hy) (Nat.le_refl _), ?_, ?_, .inr ?_⟩
      · rw [g3 a c r e he kz (by omega) hcc]; simp
      · rw [g3 a c r e he kz (by omega) hcc]; simp; omega
      · have g1 : spansP b e.p (nInv a e.p c : Nat) = some ((i' : Int), (callsP b).getD i' 0) := by
          have := spanF_at b he' ke' b.length (lt_of_get he') (Nat.le_refl _)
          rw [pe', ne'] at this
          exact this
        have g2 : spansP b y.p (nInv a y.p m : Nat) = some ((m' : Int), (callsP b).getD m' 0) := by
          have := spanF_at b hy' ky' b.length (lt_of_get hy') (Nat.le_refl _)
          rw [py', ny'] at this
          exact this
        dsimp only
        rw [g1, g2]
        simp only [Option.getD_some]
        rw [g3 b i' r' e' he' ke' hr' hcr']
        omega
  cases hk : rkeepsB a b with
  | true => exact (keepsB_true (key.1 hk)).symm
  | false =>
    have : ¬ noViol (spansP a) (spansP b) := fun h2 => by rw [key.2 h2] at hk; cases hk
    simp [keepsB, this]
end Go.Proofs.Ytifakbipdmceiaa
