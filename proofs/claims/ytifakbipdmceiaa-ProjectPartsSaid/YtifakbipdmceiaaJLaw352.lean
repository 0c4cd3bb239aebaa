import Derived.Test.YtifakbipdmceiaaJLaw329
import Derived.Test.YtifakbipdmceiaaJLaw331
import Derived.Test.YtifakbipdmceiaaJLaw332
import Derived.Test.YtifakbipdmceiaaJLaw333
import Derived.Test.YtifakbipdmceiaaJLaw334
import Derived.Test.YtifakbipdmceiaaJLaw321
import Derived.Test.YtifakbipdmceiaaJLaw351
set_option linter.unusedVariables false
set_option linter.unusedSimpArgs false
namespace Go.Proofs.Ytifakbipdmceiaa
open Go.RowKit

theorem Own.rowQ {α : Type} {E : El α} {e : TypeId} {B N : Nat} {w : World} {v : Value} {xs : List α} (h : Own E e B N w v xs) : ∃ A c, v = .slice A xs.length c ∧ xs.length ≤ c ∧ Row E 0 N w A xs := by
  obtain ⟨A, c, h1, h2, h3⟩ := h.row
  exact ⟨A, c, h1, h2, h3.mono (Nat.zero_le _) (Nat.le_refl _)⟩
/-- The answers of the parts. -/
structure ParL (l : List Ev) (name : ByteArray) (xo xp xz : List Ev) (os ps : List ByteArray) : Prop where
  eo : xo = objectP l name
  ep : xp = procP l name
  ez : xz = wholeP l
  es : os = objectsP l
  et : ps = procsP l
section
variable {l : List Ev} {name : ByteArray} {xo xp xz : List Ev} {os ps : List ByteArray} {A : Option Addr} {c B0 N0 : Nat} {w : World}
theorem in_p (hr : Row eEl B0 N0 w A l) (hN : N0 ≤ w.heap.size) (hc : l.length ≤ c) :
    Calls Try.prog 14 #[.slice A l.length c] w fun e w' => ∃ A1 c1, e = .returned (.slice A1 l.length c1) ∧ l.length ≤ c1 ∧ Row eEl 0 w'.heap.size w' A1 l ∧ Below w.heap.size w w' := by
  refine (CopyE_ref l A c B0 N0 w hr hN hc).mono ?_
  rintro e w' ⟨v, rfl, ho, hb⟩
  rw [keepP_true] at ho
  obtain ⟨A1, c1, rfl, k1, k2⟩ := ho.row
  exact ⟨A1, c1, rfl, k1, k2, hb⟩
theorem object_p (P : Q (ParL l name xo xp xz os ps)) (hr : Row eEl B0 N0 w A l) (hN : N0 ≤ w.heap.size) (hc : l.length ≤ c) :
    Calls Try.prog 15 #[.slice A l.length c, .string name] w fun e w' => ∃ A1 c1, e = .returned (.slice A1 xo.length c1) ∧ Own eEl 37 w.heap.size w'.heap.size w' (.slice A1 xo.length c1) xo ∧ Row eEl 0 w'.heap.size w' A1 xo ∧ Below w.heap.size w w' := by
  refine (object_any l A c B0 N0 name w hr hN hc).mono ?_
  rintro e w' ⟨v, rfl, ho, hb⟩
  rw [← P.out.eo] at ho
  obtain ⟨A1, c1, rfl, k1, k2⟩ := ho.row
  exact ⟨A1, c1, rfl, ho, k2.mono (Nat.zero_le _) (Nat.le_refl _), hb⟩
theorem proc_p (P : Q (ParL l name xo xp xz os ps)) (hr : Row eEl B0 N0 w A l) (hN : N0 ≤ w.heap.size) (hc : l.length ≤ c) :
    Calls Try.prog 16 #[.slice A l.length c, .string name] w fun e w' => ∃ A1 c1, e = .returned (.slice A1 xp.length c1) ∧ Row eEl 0 w'.heap.size w' A1 xp ∧ Below w.heap.size w w' := by
  refine (proc_any l A c B0 N0 name w hr hN hc).mono ?_
  rintro e w' ⟨v, rfl, ho, hb⟩
  rw [← P.out.ep] at ho
  obtain ⟨A1, c1, rfl, k1, k2⟩ := ho.rowQ
  exact ⟨A1, c1, rfl, k2, hb⟩
theorem whole_p (P : Q (ParL l name xo xp xz os ps)) (hr : Row eEl B0 N0 w A l) (hN : N0 ≤ w.heap.size) (hc : l.length ≤ c) :
    Calls Try.prog 17 #[.slice A l.length c] w fun e w' => ∃ A1 c1 F, e = .returned (.slice A1 xz.length c1) ∧ Row eEl w.heap.size w'.heap.size w' A1 xz ∧ Smear w.heap.size xz.length A1 F w' ∧ Below w.heap.size w w' := by
  refine (whole_t l A c B0 N0 w hr hN hc).mono ?_
  rintro e w' ⟨v, rfl, ho, hb⟩
  rw [← P.out.ez] at ho
  obtain ⟨A1, c1, rfl, k1, k2⟩ := ho.eEl_of.row
  obtain ⟨F, hF⟩ := ho.smear
  exact ⟨A1, c1, F, rfl, k2, hF, hb⟩
theorem objects_p (P : Q (ParL l name xo xp xz os ps)) (hr : Row eEl B0 N0 w A l) (hN : N0 ≤ w.heap.size) (hc : l.length ≤ c) :
    Calls Try.prog 19 #[.slice A l.length c] w fun e w' => ∃ A1 c1, e = .returned (.slice A1 os.length c1) ∧ Row sEl 0 w'.heap.size w' A1 os ∧ Below w.heap.size w w' := by
  refine (objects_any l A c B0 N0 w hr hN hc).mono ?_
  rintro e w' ⟨v, rfl, ho, hb⟩
  rw [← P.out.es] at ho
  obtain ⟨A1, c1, rfl, k1, k2⟩ := ho.rowQ
  exact ⟨A1, c1, rfl, k2, hb⟩
theorem procs_p (P : Q (ParL l name xo xp xz os ps)) (hr : Row eEl B0 N0 w A l) (hN : N0 ≤ w.heap.size) (hc : l.length ≤ c) :
    Calls Try.prog 21 #[.slice A l.length c] w fun e w' => ∃ A1 c1, e = .returned (.slice A1 ps.length c1) ∧ Row sEl 0 w'.heap.size w' A1 ps ∧ Below w.heap.size w w' := by
  refine (procs_any l A c B0 N0 w hr hN hc).mono ?_
  rintro e w' ⟨v, rfl, ho, hb⟩
  rw [← P.out.et] at ho
  obtain ⟨A1, c1, rfl, k1, k2⟩ := ho.rowQ
  exact ⟨A1, c1, rfl, k2, hb⟩
theorem objects_q (P : Q (ParL l name xo xp xz os ps)) (hr : Row eEl B0 N0 w A l) (hN : N0 ≤ w.heap.size) (hc : l.length ≤ c) :
    Calls Try.prog 20 #[.slice A l.length c] w fun e w' => ∃ A1 c1, e = .returned (.slice A1 os.length c1) ∧ Row sEl 0 w'.heap.size w' A1 os ∧ Below w.heap.size w w' := by
  refine (Objects_ref l A c B0 N0 w hr hN hc).mono ?_
  rintro e w' ⟨v, rfl, ho, hb⟩
  rw [← P.out.es] at ho
  obtain ⟨A1, c1, rfl, k1, k2⟩ := ho.rowQ
  exact ⟨A1, c1, rfl, k2, hb⟩
theorem procs_q (P : Q (ParL l name xo xp xz os ps)) (hr : Row eEl B0 N0 w A l) (hN : N0 ≤ w.heap.size) (hc : l.length ≤ c) :
    Calls Try.prog 22 #[.slice A l.length c] w fun e w' => ∃ A1 c1, e = .returned (.slice A1 ps.length c1) ∧ Row sEl 0 w'.heap.size w' A1 ps ∧ Below w.heap.size w w' := by
  refine (Procs_ref l A c B0 N0 w hr hN hc).mono ?_
  rintro e w' ⟨v, rfl, ho, hb⟩
  rw [← P.out.et] at ho
  obtain ⟨A1, c1, rfl, k1, k2⟩ := ho.rowQ
  exact ⟨A1, c1, rfl, k2, hb⟩
theorem object_q (P : Q (ParL l name xo xp xz os ps)) (hr : Row eEl B0 N0 w A l) (hN : N0 ≤ w.heap.size) (hc : l.length ≤ c) :
    Calls Try.prog 24 #[.slice A l.length c, .string name] w fun e w' => ∃ A1 c1, e = .returned (.slice A1 xo.length c1) ∧ Row eEl 0 w'.heap.size w' A1 xo ∧ Below w.heap.size w w' := by
  refine (Object_ref l A c B0 N0 name w hr hN hc).mono ?_
  rintro e w' ⟨v, rfl, ho, hb⟩
  rw [← object_same, ← P.out.eo] at ho
  obtain ⟨A1, c1, rfl, k1, k2⟩ := ho.row
  exact ⟨A1, c1, rfl, k2, hb⟩
theorem proc_q (P : Q (ParL l name xo xp xz os ps)) (hr : Row eEl B0 N0 w A l) (hN : N0 ≤ w.heap.size) (hc : l.length ≤ c) :
    Calls Try.prog 25 #[.slice A l.length c, .string name] w fun e w' => ∃ A1 c1, e = .returned (.slice A1 xp.length c1) ∧ Row eEl 0 w'.heap.size w' A1 xp ∧ Below w.heap.size w w' := by
  refine (Proc_ref l A c B0 N0 name w hr hN hc).mono ?_
  rintro e w' ⟨v, rfl, ho, hb⟩
  rw [show keepP (procB l name) l = xp from P.out.ep.symm] at ho
  obtain ⟨A1, c1, rfl, k1, k2⟩ := ho.row
  exact ⟨A1, c1, rfl, k2, hb⟩
theorem whole_q (P : Q (ParL l name xo xp xz os ps)) (hr : Row eEl B0 N0 w A l) (hN : N0 ≤ w.heap.size) (hc : l.length ≤ c) :
    Calls Try.prog 26 #[.slice A l.length c] w fun e w' => ∃ A1 c1, e = .returned (.slice A1 xz.length c1) ∧ Row eEl 0 w'.heap.size w' A1 xz ∧ Below w.heap.size w w' := by
  refine (Whole_ref l A c B0 N0 w hr hN hc).mono ?_
  rintro e w' ⟨v, rfl, ho, hb⟩
  rw [← whole_same, ← P.out.ez] at ho
  obtain ⟨A1, c1, rfl, k1, k2⟩ := ho.row
  exact ⟨A1, c1, rfl, k2, hb⟩
theorem exact_p (xs : List Ev) {A' : Option Addr} {c' B1 N1 : Nat} (hx : Row eEl B0 N0 w A xs) (hy : Row eEl B1 N1 w A' xs) (hN : N0 ≤ w.heap.size) (hN1 : N1 ≤ w.heap.size) :
    Calls Try.prog 23 #[.slice A xs.length c, .slice A' xs.length c'] w fun e w' => e = .returned (.bool true) ∧ Below w.heap.size w w' := by
  refine (Exact_ref xs xs A A' c c' 0 w.heap.size w (hx.mono (Nat.zero_le _) hN) (hy.mono (Nat.zero_le _) hN1) (Nat.le_refl _)).mono ?_
  rintro e w' ⟨rfl, hb⟩
  exact ⟨by rw [exEs_self], hb⟩
end
end Go.Proofs.Ytifakbipdmceiaa
