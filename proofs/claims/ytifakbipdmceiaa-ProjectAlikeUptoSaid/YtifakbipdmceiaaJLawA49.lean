import Derived.Test.YtifakbipdmceiaaJLawA46
import Derived.Test.YtifakbipdmceiaaJLawA21
import Derived.Test.YtifakbipdmceiaaJLawA48
set_option linter.unusedVariables false
set_option linter.unusedSimpArgs false
namespace Go.Proofs.Ytifakbipdmceiaa
open Go.RowKit

theorem keeps_same (a b : List Ev) : (alikeP a b && rkeepsB a b) = (alikeP a b && keepsB (spansP a) (spansP b)) := by
  cases h : alikeP a b with
  | false => rfl
  | true => rw [rkeeps_same h]
set_option maxHeartbeats 8000000 in
set_option maxRecDepth 100000 in
theorem alike_law (a b : List Ev) (A1 A2 : Option Addr) (c1 c2 B0 N0 : Nat) (w : World) (hra0 : Row eEl B0 N0 w A1 a) (hrb0 : Row eEl B0 N0 w A2 b) (hN : N0 ≤ w.heap.size) (hca : a.length ≤ c1) (hcb : b.length ≤ c2) (ta0 : ∀ e ∈ a, TxV e.v) (tb0 : ∀ e ∈ b, TxV e.v) :
    Calls Try.prog 5 #[.slice A1 a.length c1, .slice A2 b.length c2] w fun e w' => e = .returned (.bool true) ∧ Below w.heap.size w w' := by
  have hra := Q.mk hra0
  have hrb := Q.mk hrb0
  have ta := Q.mk ta0
  have tb := Q.mk tb0
  clear hra0 hrb0 ta0 tb0
  have BC : Below w.heap.size w w := Below.refl _ _
  obtain ⟨x, hx⟩ : ∃ x, Q (x = alikeP a b) := ⟨_, ⟨rfl⟩⟩
  obtain ⟨p, hp⟩ : ∃ x, Q (x = (alikeP a b && keepsB (spansP a) (spansP b))) := ⟨_, ⟨rfl⟩⟩
  have hp2 : Q (p = (alikeP a b && rkeepsB a b)) := ⟨hp.out.trans (keeps_same a b).symm⟩
  cases x <;> cases p
  all_goals
    go_enter Try.func5, Try.ntmps5
    go_wp2_with (first
      | (go_at_call 31; with_reducible refine (alike_any a b A1 A2 c1 c2 B0 N0 _ (hra.out.below BC hN) (hrb.out.below BC hN) (Nat.le_trans hN BC.size) hca hcb).mono ?_; rw [← hx.out]; rintro e wn ⟨rfl, hb⟩; replace BC := BC.trans (hb.mono BC.size); clear hb)
      | (go_at_call 32; with_reducible refine (Alike_ref a b A1 A2 c1 c2 B0 N0 _ (hra.out.below BC hN) (hrb.out.below BC hN) (Nat.le_trans hN BC.size) hca hcb ta.out tb.out).mono ?_; rw [← hx.out]; rintro e wn ⟨rfl, hb⟩; replace BC := BC.trans (hb.mono BC.size); clear hb)
      | (go_at_call 33; with_reducible refine (keeps_any a b A1 A2 c1 c2 B0 N0 _ (hra.out.below BC hN) (hrb.out.below BC hN) (Nat.le_trans hN BC.size) hca hcb).mono ?_; rw [← hp.out]; rintro e wn ⟨rfl, hb⟩; replace BC := BC.trans (hb.mono BC.size); clear hb)
      | (go_at_call 34; with_reducible refine (Keeps_ref a b A1 A2 c1 c2 B0 N0 _ (hra.out.below BC hN) (hrb.out.below BC hN) (Nat.le_trans hN BC.size) hca hcb ta.out tb.out).mono ?_; rw [← hp2.out]; rintro e wn ⟨rfl, hb⟩; replace BC := BC.trans (hb.mono BC.size); clear hb)
      | (go_at_call 27; refine (alive_any _).mono ?_; rintro e wn ⟨rfl, hb⟩; replace BC := BC.trans (hb.mono BC.size); clear hb))
    go_ret
    exact ⟨rfl, BC⟩
end Go.Proofs.Ytifakbipdmceiaa
