import Derived.Test.YtifakbipdmceiaaJLawA7
set_option linter.unusedVariables false
namespace Go.Proofs.Ytifakbipdmceiaa
open Go.RowKit

set_option maxHeartbeats 2000000 in
set_option maxRecDepth 100000 in
theorem formed_any (d : Nat) : ∀ (k n m : Int) (t : ByteArray) (items : List Val) (A : Option Addr) (c B0 N0 : Nat) (w : World), SizeOf.sizeOf items ≤ d → Row vEl B0 N0 w A items → N0 ≤ w.heap.size → t.size ≤ 140737488355328 → items.length ≤ c →
    Calls Try.prog 112 #[.agg #[.int .i64 k, .int .i64 n, .int .i64 m, .string t, .slice A items.length c]] w fun e w' => e = .returned (.bool (formB (.mk k n m t items))) ∧ Below w.heap.size w w' := by
  induction d with
  | zero => intro k n m t items A c B0 N0 w hd; exfalso; have : 0 < SizeOf.sizeOf items := by cases items <;> simp <;> omega
            omega
  | succ d ih =>
  intro k n m t items A c B0 N0 w hd hr0 hN ht hc
  have IH := Lib.hid ih
  have hr := Q.mk hr0
  have hlen : items.length * 64 ≤ 140737488355328 := hr0.1
  clear hr0 ih
  obtain ⟨res, hres⟩ : ∃ res, res = formB (.mk k n m t items) := ⟨_, rfl⟩
  rw [← hres]
  simp only [formB] at hres
  have HR := Q.mk hres
  clear hres
  by_cases h1 : k = 1
  · subst h1
    go_enter Try.func112, Try.ntmps112
    go_wp2
    all_goals go_ret
    all_goals exact ⟨by rw [HR.out]; simp [plainB, *], (Below.refl _ _).alloc (Nat.le_refl _) _⟩
  by_cases h2 : k = 2
  · subst h2
    go_enter Try.func112, Try.ntmps112
    go_wp2
    all_goals go_ret
    all_goals exact ⟨by rw [HR.out]; simp [plainB, *], (Below.refl _ _).alloc (Nat.le_refl _) _⟩
  by_cases h3 : k = 3
  · subst h3
    go_enter Try.func112, Try.ntmps112
    go_wp2_with (go_at_call 133; refine (part_any _ _).mono ?_; rintro e w2 ⟨rfl, rfl⟩)
    all_goals go_ret
    all_goals exact ⟨by rw [HR.out]; simp [plainB, *], (Below.refl _ _).alloc (Nat.le_refl _) _⟩
  by_cases h4 : k = 4
  · subst h4
    go_enter Try.func112, Try.ntmps112
    go_wp2_with (go_at_call 134; refine (symbol_any _ _ ht).mono ?_; rintro e w2 ⟨rfl, hb2⟩)
    all_goals go_ret
    all_goals first
      | exact ⟨by rw [HR.out]; simp [*], (Below.refl _ _).alloc (Nat.le_refl _) _⟩
      | exact ⟨by rw [HR.out]; simp [*], ((Below.refl _ _).alloc (Nat.le_refl _) _).trans (hb2.mono (by simp))⟩
  by_cases h5 : k = 5 ∨ k = 6 ∨ k = 7
  · have h6 := HR.out
    rw [if_neg h1, if_neg h2, if_neg h3, if_neg h4, if_pos h5] at h6
    replace h6 := Q.mk h6
    clear h1 h2 h3 h4 HR
    by_cases z0 : n = 0 ∧ m = 0 ∧ t.toList = []
    · obtain ⟨rfl, rfl, zt⟩ := z0
      have h7 := h6.out
      simp only [zt, beq_self_eq_true, Bool.true_and, List.isEmpty_nil] at h7
      exact formed_list d IH k h5 t items A c B0 N0 w hd hr hN hlen hc zt res ⟨h7⟩
    · have h7 : res = false := by
        rw [h6.out]
        simp only [Bool.and_eq_false_iff]
        by_cases y1 : n = 0
        · by_cases y2 : m = 0
          · refine .inl (.inr ?_)
            simp
            intro y3
            exact z0 ⟨y1, y2, by simpa using y3⟩
          · exact .inl (.inl (.inr (by simp [y2])))
        · exact .inl (.inl (.inl (by simp [y1])))
      replace h7 := Q.mk h7
      clear h6
      rcases h5 with rfl | rfl | rfl
      all_goals
        go_enter Try.func112, Try.ntmps112
        go_wp2_with fail
        all_goals first
          | (go_ret; exact ⟨by rw [h7.out]; simp [*], (Below.refl _ _).alloc (Nat.le_refl _) _⟩)
          | (exfalso; simp_all; done)
  · have f1 : (k == 1) = false := by simp [h1]
    have f2 : (k == 2) = false := by simp [h2]
    have f3 : (k == 3) = false := by simp [h3]
    have f4 : (k == 4) = false := by simp [h4]
    have f5 : (k == 5) = false := by simp; omega
    have f6 : (k == 6) = false := by simp; omega
    have f7 : (k == 7) = false := by simp; omega
    have h6 := HR.out
    rw [if_neg h1, if_neg h2, if_neg h3, if_neg h4, if_neg h5] at h6
    replace h6 := Q.mk h6
    clear h1 h2 h3 h4 h5
    go_enter Try.func112, Try.ntmps112
    go_wp2
    all_goals go_ret
    all_goals exact ⟨by rw [h6.out]; rfl, (Below.refl _ _).alloc (Nat.le_refl _) _⟩
end Go.Proofs.Ytifakbipdmceiaa
