import Derived.Test.YtifakbipdmceiaaJLawA21
import Derived.Test.YtifakbipdmceiaaJLawA28
import Derived.Test.YtifakbipdmceiaaJLawA34
section
set_option linter.unusedVariables false
set_option linter.unusedSimpArgs false
namespace Go.Proofs.Ytifakbipdmceiaa
open Go.RowKit

/-! ### what alive() asks: the pure side -/
def bS (n : UInt8) : ByteArray := ⟨#[n]⟩
def evI (p o : ByteArray) (n : Int) : Ev := ⟨1, p, o, ⟨#[102]⟩, .mk 2 n 0 ⟨#[]⟩ [], 0, 0, 0⟩
def evR (p : ByteArray) (n : Int) : Ev := ⟨2, p, ⟨#[]⟩, ⟨#[]⟩, .mk 2 n 0 ⟨#[]⟩ [], 0, 0, 0⟩
def hE : List Ev := [evI ⟨#[112]⟩ ⟨#[120]⟩ 1, evI ⟨#[113]⟩ ⟨#[121]⟩ 2, evR ⟨#[113]⟩ 3, evI ⟨#[113]⟩ ⟨#[120]⟩ 4, evR ⟨#[112]⟩ 5]
set_option maxRecDepth 100000
theorem hE_objects : objectsP hE = [⟨#[120]⟩, ⟨#[121]⟩] := by decide
theorem hE_procs : (procsP hE).length = 2 := by decide
theorem hE_object : (objectP hE ⟨#[120]⟩).length = 3 := by decide
theorem hE_whole : (wholeP hE).length = 4 := by decide
theorem hE_proc : (procP hE ⟨#[113]⟩).length = 3 := by decide
theorem right_int (n : Int) : rightB (.mk 2 n 0 ⟨#[]⟩ []) = true := by simp [rightB, smallB, cntV, cntL, formB, plainB, ByteArray.toList_eq]
theorem cmp_refl_int (n : Int) : cmpP (.mk 2 n 0 ⟨#[]⟩ []) (.mk 2 n 0 ⟨#[]⟩ []) = 0 := by
  have h : Lib.compareBytes ([] : List UInt8) [] = 0 := by decide
  simp [cmpP, right_int, ordP, ordPL, signZ, h]
theorem sameE_I (p o : ByteArray) (n : Int) : sameE (evI p o n) (evI p o n) = true := by simp [sameE, evI, right_int, cmp_refl_int]
theorem sameE_R (p : ByteArray) (n : Int) : sameE (evR p n) (evR p n) = true := by simp [sameE, evR, right_int, cmp_refl_int]
theorem sameEs_refl : ∀ l : List Ev, (∀ e ∈ l, sameE e e = true) → sameEs l l = true
  | [], _ => rfl
  | x :: xs, h => by rw [sameEs, h x (by simp), sameEs_refl xs (fun e he => h e (by simp [he]))]; rfl
theorem selP_mem (P : Nat → Bool) (l : List Ev) : ∀ k, ∀ e ∈ selP P l k, e ∈ l
  | 0, e, he => by cases he
  | k + 1, e, he => by
    rw [selP] at he
    split at he
    · exact selP_mem P l k e he
    · rename_i x hx
      split at he
      · rcases List.mem_append.1 he with h | h
        · exact selP_mem P l k e h
        · rw [List.mem_singleton.1 h]; exact List.mem_of_getElem? hx
      · exact selP_mem P l k e he
theorem procP_mem (l : List Ev) (s : ByteArray) : ∀ e ∈ procP l s, e ∈ l := selP_mem _ l _
theorem inS_mem (s : ByteArray) (l : List ByteArray) (h : s ∈ l) : inS s l = true := by rw [inS, List.any_eq_true]; exact ⟨s, h, by simp⟩
theorem alikeP_refl (l : List Ev) (h : ∀ e ∈ l, sameE e e = true) : alikeP l l = true := by
  rw [alikeP]
  simp only [decide_true, Bool.true_and, List.all_eq_true]
  intro s hs
  rw [alikeB, inS_mem s _ hs, sameEs_refl _ (fun e he => h e (procP_mem l s e he))]
  rfl
theorem hE_same : ∀ e ∈ hE, sameE e e = true := by
  intro e he
  simp only [hE, List.mem_cons, List.not_mem_nil, or_false] at he
  rcases he with rfl | rfl | rfl | rfl | rfl
  · exact sameE_I _ _ _
  · exact sameE_I _ _ _
  · exact sameE_R _ _
  · exact sameE_I _ _ _
  · exact sameE_R _ _
theorem hE_alike : alikeP hE hE = true := alikeP_refl hE hE_same
theorem hE_unlike : alikeP hE (wholeP hE) = false := by
  have h1 : procsP hE = [⟨#[112]⟩, ⟨#[113]⟩] := by decide
  have h2 : sameEs (procP hE ⟨#[113]⟩) (procP (wholeP hE) ⟨#[113]⟩) = false := sameEs_len _ _ (by decide)
  rw [alikeP, h1]
  simp [alikeB, h2]
theorem hE_ans1 : ansB hE [evR ⟨#[113]⟩ 6] = true := by
  have h1 : lastF hE ⟨#[113]⟩ hE.length = some 3 := by decide
  have h2 : (callsP hE)[3]? = some (-1) := by decide
  simp [ansB, okR, List.range_succ, goneF, evR, right_int, h1, h2]
  decide
theorem hE_ans2 : ansB hE [evR ⟨#[112]⟩ 6] = false := by
  have h1 : lastF hE ⟨#[112]⟩ hE.length = some 4 := by decide
  simp [ansB, okR, List.range_succ, goneF, evR, right_int, h1]
  intro h
  exact absurd h (by decide)
theorem hE_rows : ((mergesL [] (hE.take 2) ((hE.drop 2).take 1)).take 9).map (·.map (·.p)) = [[⟨#[112]⟩, ⟨#[113]⟩, ⟨#[113]⟩], [⟨#[112]⟩, ⟨#[113]⟩, ⟨#[113]⟩], [⟨#[113]⟩, ⟨#[112]⟩, ⟨#[113]⟩]] := by decide
theorem keepsB_refl (f : Sp) : keepsB f f = true := keepsB_true fun c d => by
  rintro ⟨p, q, hp, hq, h1, h2, h3⟩
  rw [hp, hq] at h3
  simp at h3
  omega
end Go.Proofs.Ytifakbipdmceiaa
end
section
set_option linter.unusedVariables false
set_option linter.unusedSimpArgs false
namespace Go.Proofs.Ytifakbipdmceiaa
open Go.RowKit

/-! ### Alike is an equivalence, Keeps carries over: the pure side -/
theorem cmpB_self : ∀ a : List UInt8, Lib.compareBytes a a = 0
  | [] => by simp [Lib.compareBytes]
  | x :: xs => by
    have := cmpB_self xs
    unfold Lib.compareBytes
    have h : ¬ x < x := by simp
    simp [h, this]
theorem cmpB_eq : ∀ a b : List UInt8, Lib.compareBytes a b = 0 → a = b
  | [], [], _ => rfl
  | [], _ :: _, h => by simp [Lib.compareBytes] at h
  | _ :: _, [], h => by simp [Lib.compareBytes] at h
  | x :: xs, y :: ys, h => by
    unfold Lib.compareBytes at h
    split at h
    · omega
    · split at h
      · omega
      · rename_i h1 h2
        have : x = y := UInt8.le_antisymm (by simpa using h2) (by simpa using h1)
        rw [this, cmpB_eq xs ys h]
theorem signZ_ne {a : Bool} : signZ a true ≠ 0 := by cases a <;> simp [signZ]
theorem signZ_lt {n m : Int} (h : signZ (decide (n < m)) (decide (m < n)) = 0) : n = m := by
  unfold signZ at h
  split at h
  · omega
  · split at h
    · omega
    · rename_i h1 h2
      simp at h1 h2
      omega
mutual
theorem ordP_self : ∀ x : Val, ordP x x = 0
  | .mk k n m t l => by rw [ordP]; simp [signZ, cmpB_self, ordPL_self l]
theorem ordPL_self : ∀ l : List Val, ordPL l l = 0
  | [] => by rw [ordPL]; simp
  | x :: xs => by rw [ordPL]; simp [ordP_self x, ordPL_self xs]
end
mutual
theorem ordP_eq : ∀ x y : Val, ordP x y = 0 → x = y
  | .mk k n m t l, .mk k' n' m' t' l', h => by
    rw [ordP] at h
    by_cases h1 : k = k'
    · by_cases h2 : l.length = l'.length
      · rw [if_neg (not_not_intro h1), if_neg (not_not_intro h2)] at h
        by_cases h3 : signZ (decide (n < n')) (decide (n' < n)) = 0
        · rw [if_neg (not_not_intro h3)] at h
          by_cases h4 : signZ (decide (m < m')) (decide (m' < m)) = 0
          · rw [if_neg (not_not_intro h4)] at h
            by_cases h5 : Lib.compareBytes t.data.toList t'.data.toList = 0
            · rw [if_neg (not_not_intro h5)] at h
              have e3 := signZ_lt h3
              have e4 := signZ_lt h4
              have e5 : t = t' := by cases t; cases t'; congr; exact Array.ext' (cmpB_eq _ _ h5)
              rw [h1, e3, e4, e5, ordPL_eq l l' h2 h]
            · rw [if_pos h5] at h; exact absurd h h5
          · rw [if_pos h4] at h; exact absurd h h4
        · rw [if_pos h3] at h; exact absurd h h3
      · rw [if_neg (not_not_intro h1), if_pos h2] at h; exact absurd h signZ_ne
    · rw [if_pos h1] at h; exact absurd h signZ_ne
theorem ordPL_eq : ∀ l l' : List Val, l.length = l'.length → ordPL l l' = 0 → l = l'
  | [], [], _, _ => rfl
  | [], _ :: _, h, _ => by simp at h
  | _ :: _, [], h, _ => by simp at h
  | x :: xs, y :: ys, h, h2 => by
    rw [ordPL] at h2
    by_cases h3 : ordP x y = 0
    · rw [if_neg (not_not_intro h3)] at h2
      rw [ordP_eq x y h3, ordPL_eq xs ys (by simpa using h) h2]
    · rw [if_pos h3] at h2; exact absurd h2 h3
end
theorem sameE_iff (x y : Ev) : sameE x y = true ↔ x.k = y.k ∧ x.p = y.p ∧ x.o = y.o ∧ x.q = y.q ∧ rightB x.v = true ∧ x.v = y.v := by
  unfold sameE cmpP
  constructor
  · intro h
    simp only [Bool.and_eq_true, beq_iff_eq, decide_eq_true_eq] at h
    obtain ⟨⟨⟨⟨⟨⟨h1, h2⟩, h3⟩, h4⟩, h5⟩, h6⟩, h7⟩ := h
    rw [if_pos h5, if_pos h6] at h7
    exact ⟨h1, h2, h3, h4, h5, ordP_eq _ _ h7⟩
  · rintro ⟨h1, h2, h3, h4, h5, h6⟩
    rw [← h6]
    simp [h1, h2, h3, h4, h5, ordP_self]
theorem sameE_symm {x y : Ev} (h : sameE x y = true) : sameE y x = true := by
  obtain ⟨h1, h2, h3, h4, h5, h6⟩ := (sameE_iff x y).1 h
  exact (sameE_iff y x).2 ⟨h1.symm, h2.symm, h3.symm, h4.symm, by rw [← h6]; exact h5, h6.symm⟩
theorem sameE_trans {x y z : Ev} (h : sameE x y = true) (h' : sameE y z = true) : sameE x z = true := by
  obtain ⟨h1, h2, h3, h4, h5, h6⟩ := (sameE_iff x y).1 h
  obtain ⟨k1, k2, k3, k4, k5, k6⟩ := (sameE_iff y z).1 h'
  exact (sameE_iff x z).2 ⟨h1.trans k1, h2.trans k2, h3.trans k3, h4.trans k4, h5, h6.trans k6⟩
theorem sameEs_symm : ∀ {xs ys : List Ev}, sameEs xs ys = true → sameEs ys xs = true
  | [], [], _ => rfl
  | [], _ :: _, h => by simp [sameEs] at h
  | _ :: _, [], h => by simp [sameEs] at h
  | x :: xs, y :: ys, h => by
    simp only [sameEs, Bool.and_eq_true] at h ⊢
    exact ⟨sameE_symm h.1, sameEs_symm h.2⟩
theorem sameEs_trans : ∀ {xs ys zs : List Ev}, sameEs xs ys = true → sameEs ys zs = true → sameEs xs zs = true
  | [], [], [], _, _ => rfl
  | [], _ :: _, _, h, _ => by simp [sameEs] at h
  | _ :: _, [], _, h, _ => by simp [sameEs] at h
  | _, [], _ :: _, _, h => by simp [sameEs] at h
  | _, _ :: _, [], _, h => by simp [sameEs] at h
  | x :: xs, y :: ys, z :: zs, h, h' => by
    simp only [sameEs, Bool.and_eq_true] at h h' ⊢
    exact ⟨sameE_trans h.1 h'.1, sameEs_trans h.2 h'.2⟩
/-! ### the processes -/
theorem selN_nodup (of : Ev → ByteArray × Bool) (l : List Ev) : ∀ k, (selN of l k).Nodup
  | 0 => by simp [selN]
  | k + 1 => by
    have := selN_nodup of l k
    rw [selN]
    split
    · exact this
    · split
      · rename_i h
        rw [List.nodup_append]
        refine ⟨this, by simp, ?_⟩
        intro a ha b hb hab
        rw [List.mem_singleton] at hb
        subst hb
        subst hab
        rw [inS_mem _ _ ha] at h
        cases h.2
      · exact this
theorem procs_mem (l : List Ev) (s : ByteArray) : ∀ k, k ≤ l.length → (s ∈ selN procOf l k ↔ ∃ j, j < k ∧ ∃ e, l[j]? = some e ∧ e.p = s)
  | 0, _ => by simp [selN]
  | k + 1, hk => by
    have ih := procs_mem l s k (by omega)
    have he : l[k]? = some l[k] := List.getElem?_eq_getElem (by omega)
    have hlast : (∃ j, j < k + 1 ∧ ∃ e, l[j]? = some e ∧ e.p = s) ↔ ((∃ j, j < k ∧ ∃ e, l[j]? = some e ∧ e.p = s) ∨ l[k].p = s) := by
      constructor
      · rintro ⟨j, h1, e, h2, h3⟩
        rcases Nat.lt_or_ge j k with h4 | h4
        · exact .inl ⟨j, h4, e, h2, h3⟩
        · obtain rfl : j = k := by omega
          rw [he] at h2; cases h2; exact .inr h3
      · rintro (⟨j, h1, e, h2, h3⟩ | h)
        · exact ⟨j, by omega, e, h2, h3⟩
        · exact ⟨k, by omega, _, he, h⟩
    rw [hlast, ← ih, selN, he]
    simp only [procOf, true_and]
    by_cases hin : inS l[k].p (selN procOf l k) = false
    · rw [if_pos hin]
      simp [eq_comm]
    · rw [if_neg hin]
      have : l[k].p ∈ selN procOf l k := (inS_iff _ _).1 (by simpa using hin)
      constructor
      · exact .inl
      · rintro (h | h)
        · exact h
        · rw [← h]; exact this
theorem alike_iff (a b : List Ev) : alikeP a b = true ↔ (procsP a).length = (procsP b).length ∧ ∀ s ∈ procsP a, s ∈ procsP b ∧ sameEs (procP a s) (procP b s) = true := by
  simp only [alikeP, Bool.and_eq_true, decide_eq_true_eq, List.all_eq_true, alikeB, inS_iff]
theorem subset_swap {α : Type} [DecidableEq α] : ∀ {xs ys : List α}, xs.Nodup → ys.Nodup → xs.length = ys.length → (∀ x ∈ xs, x ∈ ys) → ∀ y ∈ ys, y ∈ xs
  | [], ys, _, _, hl, _, y, hy => by
    have : ys = [] := List.eq_nil_of_length_eq_zero hl.symm
    rw [this] at hy
    exact hy
  | x :: xs, ys, hx, hn, hl, hs, y, hy => by
    rw [List.nodup_cons] at hx
    by_cases hxy : y = x
    · rw [hxy]; exact List.mem_cons_self
    · have h1 : (ys.erase x).Nodup := hn.erase x
      have hmem := hs x List.mem_cons_self
      have h2 : xs.length = (ys.erase x).length := by
        rw [List.length_erase_of_mem hmem]
        simp at hl
        omega
      exact List.mem_cons_of_mem _ (subset_swap hx.2 h1 h2 (fun z hz => by
        have hne : z ≠ x := by rintro rfl; exact hx.1 hz
        exact (List.mem_erase_of_ne hne).2 (hs z (List.mem_cons_of_mem _ hz))) y ((List.mem_erase_of_ne hxy).2 hy))
theorem alike_symm {a b : List Ev} (h : alikeP a b = true) : alikeP b a = true := by
  rw [alike_iff] at h ⊢
  refine ⟨h.1.symm, fun s hs => ?_⟩
  have hs' := subset_swap (selN_nodup procOf a _) (selN_nodup procOf b _) h.1 (fun x hx => (h.2 x hx).1) s hs
  exact ⟨hs', sameEs_symm (h.2 s hs').2⟩
theorem alike_comm (a b : List Ev) : alikeP b a = alikeP a b := by
  cases h : alikeP a b with
  | true => exact alike_symm h
  | false =>
    cases h' : alikeP b a with
    | false => rfl
    | true => rw [alike_symm h'] at h; cases h
theorem alike_trans {a b c : List Ev} (h : alikeP a b = true) (h' : alikeP b c = true) : alikeP a c = true := by
  rw [alike_iff] at h h' ⊢
  exact ⟨h.1.trans h'.1, fun s hs => ⟨(h'.2 s (h.2 s hs).1).1, sameEs_trans (h.2 s hs).2 (h'.2 s (h.2 s hs).1).2⟩⟩
/-! ### the calls of a process -/
def cntI : List Ev → Nat
  | [] => 0
  | e :: es => (if e.k = 1 then 1 else 0) + cntI es
theorem cntI_append (xs ys : List Ev) : cntI (xs ++ ys) = cntI xs + cntI ys := by
  induction xs with
  | nil => simp [cntI]
  | cons x xs ih => simp [cntI, ih, Nat.add_assoc]
theorem cntI_same : ∀ {xs ys : List Ev}, sameEs xs ys = true → cntI xs = cntI ys
  | [], [], _ => rfl
  | [], _ :: _, h => by simp [sameEs] at h
  | _ :: _, [], h => by simp [sameEs] at h
  | x :: xs, y :: ys, h => by
    simp only [sameEs, Bool.and_eq_true] at h
    rw [cntI, cntI, cntI_same h.2, ((sameE_iff x y).1 h.1).1]
theorem nInv_sel (l : List Ev) (s : ByteArray) : ∀ k, nInv l s k = cntI (selP (procB l s) l k)
  | 0 => rfl
  | k + 1 => by
    rw [nInv, selP, nInv_sel l s k]
    split
    · rename_i h0; simp only [h0]
    · rename_i e he
      simp only [procB, he, decide_eq_true_eq]
      by_cases hp : e.p = s
      · rw [if_pos hp, cntI_append]
        by_cases hk : e.k = 1 <;> simp [hk, hp, cntI]
      · rw [if_neg hp]; simp [hp]
theorem spanF_iff (l : List Ev) (s : ByteArray) (n : Int) : ∀ k, ((spanF l k s n).isSome = true ↔ ∃ m : Nat, n = (m : Int) ∧ m < nInv l s k)
  | 0 => by simp [spanF, nInv]
  | k + 1 => by
    have ih := spanF_iff l s n k
    rw [spanF, nInv]
    split
    · exact ih
    · rename_i e he
      by_cases h1 : e.k = 1 ∧ e.p = s
      · obtain ⟨h1, h2⟩ := h1
        rw [if_pos (show e.k = 1 ∧ e.p = s from ⟨h1, h2⟩)]
        by_cases h3 : n = (nInv l e.p k : Int)
        · rw [if_pos ⟨h1, h2.symm, h3⟩]
          exact ⟨fun _ => ⟨nInv l e.p k, h3, by rw [h2]; omega⟩, fun _ => rfl⟩
        · rw [if_neg (fun h => h3 h.2.2), ih]
          constructor
          · rintro ⟨m, h4, h5⟩; exact ⟨m, h4, by omega⟩
          · rintro ⟨m, h4, h5⟩
            refine ⟨m, h4, ?_⟩
            rw [h2] at h3
            omega
      · rw [if_neg (fun h => h1 ⟨h.1, h.2.1.symm⟩), if_neg h1]
        exact ih
theorem nInv_none (l : List Ev) (s : ByteArray) (h : ¬ s ∈ procsP l) : ∀ k, k ≤ l.length → nInv l s k = 0
  | 0, _ => rfl
  | k + 1, hk => by
    have he : l[k]? = some l[k] := List.getElem?_eq_getElem (by omega)
    rw [nInv, he, nInv_none l s h k (by omega)]
    simp only
    rw [if_neg]
    rintro ⟨_, h2⟩
    exact h ((procs_mem l s l.length (Nat.le_refl _)).2 ⟨k, by omega, _, he, h2⟩)
theorem alike_some {a b : List Ev} (h : alikeP a b = true) (c : CK) (hc : (spansP a c.1 c.2).isSome = true) : (spansP b c.1 c.2).isSome = true := by
  obtain ⟨m, h1, h2⟩ := (spanF_iff a c.1 c.2 a.length).1 hc
  refine (spanF_iff b c.1 c.2 b.length).2 ⟨m, h1, ?_⟩
  have hm : c.1 ∈ procsP a := by
    by_cases hm : c.1 ∈ procsP a
    · exact hm
    · rw [nInv_none a c.1 hm a.length (Nat.le_refl _)] at h2; omega
  have := cntI_same (((alike_iff a b).1 h).2 c.1 hm).2
  rw [nInv_sel] at h2 ⊢
  rw [show selP (procB b c.1) b b.length = procP b c.1 from rfl, ← this]
  exact h2
/-! ### Keeps -/
noncomputable def keepsP (a b : List Ev) : Bool := alikeP a b && keepsB (spansP a) (spansP b)
theorem keeps_iff (a b : List Ev) : keepsP a b = true ↔ alikeP a b = true ∧ noViol (spansP a) (spansP b) := by
  simp [keepsP, keepsB]
theorem keeps_self (a : List Ev) : alikeP a a = keepsP a a := by
  have : keepsB (spansP a) (spansP a) = true := keepsB_true fun c d => by
    rintro ⟨p, q, hp, hq, h0, h1, h2⟩
    rw [hp, hq] at h2
    simp at h2
    omega
  simp [keepsP, this]
theorem keeps_trans {a b c : List Ev} (h : keepsP a b = true) (h' : keepsP b c = true) : keepsP a c = true := by
  rw [keeps_iff] at h h' ⊢
  refine ⟨alike_trans h.1 h'.1, fun x y => ?_⟩
  rintro ⟨p, q, hp, hq, h0, h1, h2⟩
  have hn := h.2 x y
  have hx := alike_some h.1 x (by rw [hp]; rfl)
  have hy := alike_some h.1 y (by rw [hq]; rfl)
  obtain ⟨p', hp'⟩ := Option.isSome_iff_exists.1 hx
  obtain ⟨q', hq'⟩ := Option.isSome_iff_exists.1 hy
  have hg : 0 ≤ p'.2 ∧ p'.2 < q'.1 := by
    refine ⟨?_, ?_⟩ <;> refine Int.not_lt.1 fun hlt => hn ⟨p, q, hp, hq, h0, h1, ?_⟩
    · left; rw [hp']; exact hlt
    · right; rw [hp', hq']; simp; omega
  exact h'.2 x y ⟨p', q', hp', hq', hg.1, hg.2, h2⟩
end Go.Proofs.Ytifakbipdmceiaa
end
