import Derived.Test.YtifakbipdmceiaaOrderLK
import Derived.Test.YtifakbipdmceiaaJLaw351
set_option linter.unusedVariables false
set_option linter.unusedSimpArgs false
namespace Go.Proofs.Ytifakbipdmceiaa
open Go.RowKit

set_option maxHeartbeats 8000000 in
set_option maxRecDepth 100000 in
theorem order_law (a b d : List Ev) (A1 A2 A3 : Option Addr) (c1 c2 c3 B0 N0 : Nat) (w : World) (hra0 : Row eEl B0 N0 w A1 a) (hrb0 : Row eEl B0 N0 w A2 b) (hrd0 : Row eEl B0 N0 w A3 d) (hN : N0 ≤ w.heap.size) (hca : a.length ≤ c1) (hcb : b.length ≤ c2) (hcd : d.length ≤ c3) :
    Calls Try.prog 9 #[.slice A1 a.length c1, .slice A2 b.length c2, .slice A3 d.length c3] w fun e w' => e = .returned (.bool true) ∧ Below w.heap.size w w' := by
  have hra := Q.mk hra0
  have hrb := Q.mk hrb0
  have hrd := Q.mk hrd0
  clear hra0 hrb0 hrd0
  have BC : Below w.heap.size w w := Below.refl _ _
  obtain ⟨x, hx⟩ : ∃ x, Q (x = alikeP a b) := ⟨_, ⟨rfl⟩⟩
  obtain ⟨y, hy⟩ : ∃ x, Q (x = alikeP b d) := ⟨_, ⟨rfl⟩⟩
  obtain ⟨z, hz⟩ : ∃ x, Q (x = alikeP a d) := ⟨_, ⟨rfl⟩⟩
  obtain ⟨k, hk⟩ : ∃ x, Q (x = alikeP a a) := ⟨_, ⟨rfl⟩⟩
  obtain ⟨p, hp⟩ : ∃ x, Q (x = keepsP a b) := ⟨_, ⟨rfl⟩⟩
  obtain ⟨q, hq⟩ : ∃ x, Q (x = keepsP b d) := ⟨_, ⟨rfl⟩⟩
  obtain ⟨r, hr⟩ : ∃ x, Q (x = keepsP a d) := ⟨_, ⟨rfl⟩⟩
  have hk2 : Q (k = keepsP a a) := ⟨hk.out.trans (keeps_self a)⟩
  have hx2 : Q (x = alikeP b a) := ⟨hx.out.trans (alike_comm a b).symm⟩
  have f1 : x = true → y = true → z = true := fun h1 h2 => by rw [hz.out]; exact alike_trans (hx.out.symm.trans h1) (hy.out.symm.trans h2)
  have f2 : p = true → x = true := fun h => by rw [hx.out]; exact ((keeps_iff a b).1 (hp.out.symm.trans h)).1
  have f3 : p = true → q = true → r = true := fun h1 h2 => by rw [hr.out]; exact keeps_trans (hp.out.symm.trans h1) (hq.out.symm.trans h2)
  have fin : Q ((x = true ∧ y = true ∧ z = false) ∨ (p = true ∧ x = false) ∨ (p = true ∧ q = true ∧ r = false) → False) := ⟨by
    rintro (⟨h1, h2, h3⟩ | ⟨h1, h2⟩ | ⟨h1, h2, h3⟩)
    · rw [f1 h1 h2] at h3; cases h3
    · rw [f2 h1] at h2; cases h2
    · rw [f3 h1 h2] at h3; cases h3⟩
  clear f1 f2 f3
  cases x <;> cases y <;> cases z <;> cases p <;> (first | exact (fin.out (.inl ⟨rfl, rfl, rfl⟩)).elim | exact (fin.out (.inr (.inl ⟨rfl, rfl⟩))).elim | skip)
  all_goals cases k
  all_goals (first
    | (have hp1 : Q (false = keepsP a b) := hp; clear fin)
    | (cases q <;> cases r <;> (first | exact (fin.out (.inr (.inr ⟨rfl, rfl, rfl⟩))).elim | clear fin)))
  all_goals
    go_enter Try.func9, Try.ntmps9
    go_wp2_with (first
      | (go_at_call 31; with_reducible refine (alike_any a b A1 A2 c1 c2 B0 N0 _ (hra.out.below BC hN) (hrb.out.below BC hN) (Nat.le_trans hN BC.size) hca hcb).mono ?_; rw [← hx.out]; rintro e wn ⟨rfl, hb⟩; replace BC := BC.trans (hb.mono BC.size); clear hb)
      | (go_at_call 31; with_reducible refine (alike_any b d A2 A3 c2 c3 B0 N0 _ (hrb.out.below BC hN) (hrd.out.below BC hN) (Nat.le_trans hN BC.size) hcb hcd).mono ?_; rw [← hy.out]; rintro e wn ⟨rfl, hb⟩; replace BC := BC.trans (hb.mono BC.size); clear hb)
      | (go_at_call 31; with_reducible refine (alike_any a d A1 A3 c1 c3 B0 N0 _ (hra.out.below BC hN) (hrd.out.below BC hN) (Nat.le_trans hN BC.size) hca hcd).mono ?_; rw [← hz.out]; rintro e wn ⟨rfl, hb⟩; replace BC := BC.trans (hb.mono BC.size); clear hb)
      | (go_at_call 31; with_reducible refine (alike_any b a A2 A1 c2 c1 B0 N0 _ (hrb.out.below BC hN) (hra.out.below BC hN) (Nat.le_trans hN BC.size) hcb hca).mono ?_; rw [← hx2.out]; rintro e wn ⟨rfl, hb⟩; replace BC := BC.trans (hb.mono BC.size); clear hb)
      | (go_at_call 31; with_reducible refine (alike_any a a A1 A1 c1 c1 B0 N0 _ (hra.out.below BC hN) (hra.out.below BC hN) (Nat.le_trans hN BC.size) hca hca).mono ?_; rw [← hk.out]; rintro e wn ⟨rfl, hb⟩; replace BC := BC.trans (hb.mono BC.size); clear hb)
      | (go_at_call 33; with_reducible refine (keeps_any a a A1 A1 c1 c1 B0 N0 _ (hra.out.below BC hN) (hra.out.below BC hN) (Nat.le_trans hN BC.size) hca hca).mono ?_; rw [← keepsP, ← hk2.out]; rintro e wn ⟨rfl, hb⟩; replace BC := BC.trans (hb.mono BC.size); clear hb)
      | (go_at_call 33; with_reducible refine (keeps_any a b A1 A2 c1 c2 B0 N0 _ (hra.out.below BC hN) (hrb.out.below BC hN) (Nat.le_trans hN BC.size) hca hcb).mono ?_; rw [← keepsP, ← hp.out]; rintro e wn ⟨rfl, hb⟩; replace BC := BC.trans (hb.mono BC.size); clear hb)
      | (go_at_call 33; with_reducible refine (keeps_any b d A2 A3 c2 c3 B0 N0 _ (hrb.out.below BC hN) (hrd.out.below BC hN) (Nat.le_trans hN BC.size) hcb hcd).mono ?_; rw [← keepsP, ← hq.out]; rintro e wn ⟨rfl, hb⟩; replace BC := BC.trans (hb.mono BC.size); clear hb)
      | (go_at_call 33; with_reducible refine (keeps_any a d A1 A3 c1 c3 B0 N0 _ (hra.out.below BC hN) (hrd.out.below BC hN) (Nat.le_trans hN BC.size) hca hcd).mono ?_; rw [← keepsP, ← hr.out]; rintro e wn ⟨rfl, hb⟩; replace BC := BC.trans (hb.mono BC.size); clear hb)
      | (go_at_call 27; refine (alive_any _).mono ?_; rintro e wn ⟨rfl, hb⟩; replace BC := BC.trans (hb.mono BC.size); clear hb))
    go_ret
    exact ⟨rfl, BC⟩
end Go.Proofs.Ytifakbipdmceiaa
