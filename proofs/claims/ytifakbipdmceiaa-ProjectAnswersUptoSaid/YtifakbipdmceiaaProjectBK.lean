import Derived.Test.YtifakbipdmceiaaAnsLK
import Derived.Test.YtifakbipdmceiaaJLawA24
import Derived.Test.YtifakbipdmceiaaJLawA48
set_option linter.unusedVariables false
set_option linter.unusedSimpArgs false
namespace Go.Proofs.Ytifakbipdmceiaa
open Go.RowKit

set_option maxHeartbeats 8000000 in
set_option maxRecDepth 100000 in
theorem answers_law (a b : List Ev) (A1 A2 : Option Addr) (c1 c2 B0 N0 : Nat) (w : World) (hra0 : Row eEl B0 N0 w A1 a) (hrb0 : Row eEl B0 N0 w A2 b) (hN : N0 ≤ w.heap.size) (hca : a.length ≤ c1) (hcb : b.length ≤ c2) (hsum : (a.length + b.length) * 144 ≤ 140737488355328) (tb0 : ∀ e ∈ b, TxV e.v) :
    Calls Try.prog 4 #[.slice A1 a.length c1, .slice A2 b.length c2] w fun e w' => e = .returned (.bool true) ∧ Below w.heap.size w w' := by
  have hra := Q.mk hra0
  have hrb := Q.mk hrb0
  have tb := Q.mk tb0
  clear hra0 hrb0 tb0
  cases hans : ansB a b
  · have hno : Q (¬ ransP a b) := ⟨fun h => by rw [(ans_same a b).2 h] at hans; cases hans⟩
    have arm1 : Q (Calls Try.prog 28 #[.slice A1 a.length c1, .slice A2 b.length c2] w fun e w' => e = .returned (.tuple #[.slice none 0 0, .int .i64 80]) ∧ Below w.heap.size w w') := ⟨(answered_any a b A1 A2 c1 c2 B0 N0 w hra.out hrb.out hN hca hcb hsum).mono fun e w' ⟨hb, h⟩ => by
      rcases h with ⟨h, _⟩ | ⟨_, h⟩
      · rw [hans] at h; cases h
      · exact ⟨h, hb⟩⟩
    have arm2 : Q (∀ w1, Below w.heap.size w w1 → Calls Try.prog 29 #[.slice A1 a.length c1, .slice A2 b.length c2] w1 fun e w' => e = .returned (.tuple #[.slice none 0 0, .int .i64 80]) ∧ Below w1.heap.size w1 w') := ⟨fun w1 hb1 => (Answered_ref a b A1 A2 c1 c2 B0 N0 w1 (hra.out.below hb1 hN) (hrb.out.below hb1 hN) (Nat.le_trans hN hb1.size) hca hcb hsum tb.out).mono fun e w' ⟨hb, h⟩ => by
      rcases h with ⟨h, _⟩ | ⟨_, h⟩
      · exact absurd h hno.out
      · exact ⟨h, hb⟩⟩
    have arm3 : Q (∀ w1 : World, Calls Try.prog 23 #[.slice none 0 0, .slice none 0 0] w1 fun e w' => e = .returned (.bool true) ∧ Below w1.heap.size w1 w') := ⟨fun w1 => Exact_ref [] [] none none 0 0 0 0 w1 (Row.nil _ _ _ _ _) (Row.nil _ _ _ _ _) (Nat.zero_le _)⟩
    clear hans
    go_enter Try.func4, Try.ntmps4
    go_wp2_with (first
      | (go_at_call 28; refine arm1.out.mono ?_; rintro e w1 ⟨rfl, hb1⟩)
      | (go_at_call 29; refine (arm2.out _ hb1).mono ?_; rintro e w2 ⟨rfl, hb2⟩)
      | (go_at_call 30; refine (num_any _ _).mono ?_; rintro e wx ⟨rfl, rfl⟩)
      | (go_at_call 23; refine (arm3.out _).mono ?_; rintro e w3 ⟨rfl, hb3⟩)
      | (go_at_call 27; refine (alive_any _).mono ?_; rintro e w4 ⟨rfl, hb4⟩))
    go_ret
    have z1 := hb1.size
    have z2 := hb2.size
    have z3 := hb3.size
    exact ⟨rfl, ((hb1.trans (hb2.mono z1)).trans (hb3.mono (by omega))).trans (hb4.mono (by omega))⟩
  · have hyes : Q (ransP a b) := ⟨(ans_same a b).1 hans⟩
    have arm1 : Q (Calls Try.prog 28 #[.slice A1 a.length c1, .slice A2 b.length c2] w fun e w' => ∃ A c, e = .returned (.tuple #[.slice A (a ++ b).length c, .int .i64 0]) ∧ Row eEl w.heap.size w'.heap.size w' A (a ++ b) ∧ Below w.heap.size w w') := ⟨(answered_any a b A1 A2 c1 c2 B0 N0 w hra.out hrb.out hN hca hcb hsum).mono fun e w' ⟨hb, h⟩ => by
      rcases h with ⟨_, v, h, ho⟩ | ⟨h, _⟩
      · rw [copyP_self, copyP_self] at ho
        obtain ⟨A, c, rfl, _, hr⟩ := ho.row
        exact ⟨A, c, h, hr, hb⟩
      · rw [hans] at h; cases h⟩
    have arm2 : Q (∀ w1, Below w.heap.size w w1 → Calls Try.prog 29 #[.slice A1 a.length c1, .slice A2 b.length c2] w1 fun e w' => ∃ A c, e = .returned (.tuple #[.slice A (a ++ b).length c, .int .i64 0]) ∧ Row eEl 0 w'.heap.size w' A (a ++ b) ∧ Below w1.heap.size w1 w') := ⟨fun w1 hb1 => (Answered_ref a b A1 A2 c1 c2 B0 N0 w1 (hra.out.below hb1 hN) (hrb.out.below hb1 hN) (Nat.le_trans hN hb1.size) hca hcb hsum tb.out).mono fun e w' ⟨hb, h⟩ => by
      rcases h with ⟨_, v, h, ho⟩ | ⟨h, _⟩
      · obtain ⟨A, c, rfl, _, hr⟩ := ho.row
        exact ⟨A, c, h, hr, hb⟩
      · exact absurd hyes.out h⟩
    have hself : Q (exEs (a ++ b) (a ++ b) = true) := ⟨exEs_self _⟩
    have arm3 : Q (∀ (w1 w2 : World) (A A' : Option Addr) (c c' : Nat), Row eEl w.heap.size w1.heap.size w1 A (a ++ b) → Below w1.heap.size w1 w2 → Row eEl 0 w2.heap.size w2 A' (a ++ b) → Calls Try.prog 23 #[.slice A (a ++ b).length c, .slice A' (a ++ b).length c'] w2 fun e w' => e = .returned (.bool true) ∧ Below w2.heap.size w2 w') := ⟨fun w1 w2 A A' c c' h1 h2 h3 => by
      have h4 := Exact_ref (a ++ b) (a ++ b) A A' c c' 0 w2.heap.size w2 ((h1.below h2 (Nat.le_refl _)).mono (Nat.zero_le _) h2.size) h3 (Nat.le_refl _)
      rw [hself.out] at h4
      exact h4⟩
    obtain ⟨n, hn⟩ : ∃ n, n = (a ++ b).length := ⟨_, rfl⟩
    rw [← hn] at arm1 arm2 arm3
    clear hans hself hyes hn
    go_enter Try.func4, Try.ntmps4
    go_wp2_with (first
      | (go_at_call 28; refine arm1.out.mono ?_; rintro e w1 ⟨A3, c3, rfl, hr1, hb1⟩; replace hr1 := Q.mk hr1)
      | (go_at_call 29; refine (arm2.out _ hb1).mono ?_; rintro e w2 ⟨A4, c4, rfl, hr2, hb2⟩; replace hr2 := Q.mk hr2)
      | (go_at_call 30; refine (num_any _ _).mono ?_; rintro e wx ⟨rfl, rfl⟩)
      | (go_at_call 23; refine (arm3.out _ _ _ _ _ _ hr1.out hb2 hr2.out).mono ?_; rintro e w3 ⟨rfl, hb3⟩)
      | (go_at_call 27; refine (alive_any _).mono ?_; rintro e w4 ⟨rfl, hb4⟩))
    go_ret
    have z1 := hb1.size
    have z2 := hb2.size
    have z3 := hb3.size
    exact ⟨rfl, ((hb1.trans (hb2.mono z1)).trans (hb3.mono (by omega))).trans (hb4.mono (by omega))⟩
end Go.Proofs.Ytifakbipdmceiaa
