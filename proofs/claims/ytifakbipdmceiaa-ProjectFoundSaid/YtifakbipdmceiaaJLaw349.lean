import Derived.Test.YtifakbipdmceiaaJLaw340
import Derived.Test.YtifakbipdmceiaaJLaw341
import Derived.Test.YtifakbipdmceiaaJLaw348
set_option linter.unusedVariables false
set_option linter.unusedSimpArgs false
namespace Go.Proofs.Ytifakbipdmceiaa
open Go.RowKit

/-! ### what alive() asks: the pure side -/
def bS (n : UInt8) : ByteArray := ⟨#[n]⟩
def evI (p o : ByteArray) (n : Int) : Ev := ⟨1, p, o, ⟨#[102]⟩, .mk 2 n 0 ⟨#[]⟩ [], 0, 0, 0⟩
def evR (p : ByteArray) (n : Int) : Ev := ⟨2, p, ⟨#[]⟩, ⟨#[]⟩, .mk 2 n 0 ⟨#[]⟩ [], 0, 0, 0⟩
def hE : List Ev := [evI ⟨#[112]⟩ ⟨#[120]⟩ 1, evI ⟨#[113]⟩ ⟨#[121]⟩ 2, evR ⟨#[113]⟩ 3, evI ⟨#[113]⟩ ⟨#[120]⟩ 4, evR ⟨#[112]⟩ 5]
set_option maxRecDepth 100000
theorem hE_objects : objectsP hE = [⟨#[120]⟩, ⟨#[121]⟩] := by decide
theorem hE_procs : (procsP hE).length = 2 := by decide
theorem hE_object : (objectP hE ⟨#[120]⟩).length = 3 := by decide
theorem hE_whole : (wholeP hE).length = 4 := by decide
theorem hE_proc : (procP hE ⟨#[113]⟩).length = 3 := by decide
theorem right_int (n : Int) : rightB (.mk 2 n 0 ⟨#[]⟩ []) = true := by simp [rightB, smallB, cntV, cntL, formB, plainB, ByteArray.toList_eq]
theorem cmp_refl_int (n : Int) : cmpP (.mk 2 n 0 ⟨#[]⟩ []) (.mk 2 n 0 ⟨#[]⟩ []) = 0 := by
  have h : Lib.compareBytes ([] : List UInt8) [] = 0 := by decide
  simp [cmpP, right_int, ordP, ordPL, signZ, h]
theorem sameE_I (p o : ByteArray) (n : Int) : sameE (evI p o n) (evI p o n) = true := by simp [sameE, evI, right_int, cmp_refl_int]
theorem sameE_R (p : ByteArray) (n : Int) : sameE (evR p n) (evR p n) = true := by simp [sameE, evR, right_int, cmp_refl_int]
theorem sameEs_refl : ∀ l : List Ev, (∀ e ∈ l, sameE e e = true) → sameEs l l = true
  | [], _ => rfl
  | x :: xs, h => by rw [sameEs, h x (by simp), sameEs_refl xs (fun e he => h e (by simp [he]))]; rfl
theorem selP_mem (P : Nat → Bool) (l : List Ev) : ∀ k, ∀ e ∈ selP P l k, e ∈ l
  | 0, e, he => by cases he
  | k + 1, e, he => by
    rw [selP] at he
    split at he
    · exact selP_mem P l k e he
    · rename_i x hx
      split at he
      · rcases List.mem_append.1 he with h | h
        · exact selP_mem P l k e h
        · rw [List.mem_singleton.1 h]; exact List.mem_of_getElem? hx
      · exact selP_mem P l k e he
theorem procP_mem (l : List Ev) (s : ByteArray) : ∀ e ∈ procP l s, e ∈ l := selP_mem _ l _
theorem inS_mem (s : ByteArray) (l : List ByteArray) (h : s ∈ l) : inS s l = true := by rw [inS, List.any_eq_true]; exact ⟨s, h, by simp⟩
theorem alikeP_refl (l : List Ev) (h : ∀ e ∈ l, sameE e e = true) : alikeP l l = true := by
  rw [alikeP]
  simp only [decide_true, Bool.true_and, List.all_eq_true]
  intro s hs
  rw [alikeB, inS_mem s _ hs, sameEs_refl _ (fun e he => h e (procP_mem l s e he))]
  rfl
theorem hE_same : ∀ e ∈ hE, sameE e e = true := by
  intro e he
  simp only [hE, List.mem_cons, List.not_mem_nil, or_false] at he
  rcases he with rfl | rfl | rfl | rfl | rfl
  · exact sameE_I _ _ _
  · exact sameE_I _ _ _
  · exact sameE_R _ _
  · exact sameE_I _ _ _
  · exact sameE_R _ _
theorem hE_alike : alikeP hE hE = true := alikeP_refl hE hE_same
theorem hE_unlike : alikeP hE (wholeP hE) = false := by
  have h1 : procsP hE = [⟨#[112]⟩, ⟨#[113]⟩] := by decide
  have h2 : sameEs (procP hE ⟨#[113]⟩) (procP (wholeP hE) ⟨#[113]⟩) = false := sameEs_len _ _ (by decide)
  rw [alikeP, h1]
  simp [alikeB, h2]
theorem hE_ans1 : ansB hE [evR ⟨#[113]⟩ 6] = true := by
  have h1 : lastF hE ⟨#[113]⟩ hE.length = some 3 := by decide
  have h2 : (callsP hE)[3]? = some (-1) := by decide
  simp [ansB, okR, List.range_succ, goneF, evR, right_int, h1, h2]
  decide
theorem hE_ans2 : ansB hE [evR ⟨#[112]⟩ 6] = false := by
  have h1 : lastF hE ⟨#[112]⟩ hE.length = some 4 := by decide
  simp [ansB, okR, List.range_succ, goneF, evR, right_int, h1]
  intro h
  exact absurd h (by decide)
theorem hE_rows : ((mergesL [] (hE.take 2) ((hE.drop 2).take 1)).take 9).map (·.map (·.p)) = [[⟨#[112]⟩, ⟨#[113]⟩, ⟨#[113]⟩], [⟨#[112]⟩, ⟨#[113]⟩, ⟨#[113]⟩], [⟨#[113]⟩, ⟨#[112]⟩, ⟨#[113]⟩]] := by decide
theorem keepsB_refl (f : Sp) : keepsB f f = true := keepsB_true fun c d => by
  rintro ⟨p, q, hp, hq, h1, h2, h3⟩
  rw [hp, hq] at h3
  simp at h3
  omega
end Go.Proofs.Ytifakbipdmceiaa
