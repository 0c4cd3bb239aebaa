import Derived.Test.YtifakbipdmceiaaJLaw31
import Derived.Test.YtifakbipdmceiaaJLaw33
import Derived.Test.YtifakbipdmceiaaJLaw32
section
set_option linter.unusedVariables false
namespace Go.Proofs.Ytifakbipdmceiaa
open Go.RowKit

def signZ (l m : Bool) : Int := if l = true then -1 else if m = true then 1 else 0
theorem sign_any (l m : Bool) (w : World) : Calls Try.prog 145 #[.bool l, .bool m] w fun e w' => e = .returned (.int .i64 (signZ l m)) ∧ w = w' := by
  cases l <;> cases m
  all_goals
    go_enter Try.func145, Try.ntmps145
    go_wp2
    go_ret
    exact ⟨rfl, rfl⟩

def partB (n : Int) : Bool := decide (-1048576 ≤ n) && decide (n ≤ 1048576)
theorem part_any (n : Int) (w : World) : Calls Try.prog 133 #[.int .i64 n] w fun e w' => e = .returned (.bool (partB n)) ∧ w = w' := by
  have h : ∃ b, b = partB n := ⟨_, rfl⟩
  obtain ⟨b, hb⟩ := h
  rw [← hb]
  replace hb := Q.mk hb
  by_cases h1 : -1048576 ≤ n <;> by_cases h2 : n ≤ 1048576
  all_goals
    go_enter Try.func133, Try.ntmps133
    go_wp2
    go_ret
    exact ⟨by rw [hb.out]; simp [partB]; omega, rfl⟩

def symB (s : ByteArray) : Bool := nameB s && !(s.toList == [116, 114, 117, 101]) && !(s.toList == [102, 97, 108, 115, 101])
theorem errno_t (e : Int) : errnoB true e = 0 := rfl
theorem errno_f (e : Int) : errnoB false e = e := rfl
set_option maxHeartbeats 1000000 in
theorem symbol_any (s : ByteArray) (w : World) (hs : s.size ≤ 140737488355328) : Calls Try.prog 134 #[.string s] w fun e w' => e = .returned (.bool (symB s)) ∧ Below w.heap.size w w' := by
  obtain ⟨b, hb⟩ : ∃ b, b = symB s := ⟨_, rfl⟩
  rw [← hb]
  replace hb := Q.mk hb
  have e1 := errno_t 21
  have e2 := errno_f 21
  cases hn : nameB s <;> cases h1 : (s.toList == [116, 114, 117, 101]) <;> cases h2 : (s.toList == [102, 97, 108, 115, 101])
  all_goals
    go_enter Try.func134, Try.ntmps134
    go_wp2_with (go_at_call 118; refine (Name_any _ _ hs).mono ?_; rintro e w1 ⟨rfl, hb1⟩)
    go_ret
    exact ⟨by rw [hb.out]; simp [symB, hn, h1, h2], hb1⟩
end Go.Proofs.Ytifakbipdmceiaa
end
section
set_option linter.unusedVariables false
set_option linter.unusedSimpArgs false
namespace Go.Proofs.Ytifakbipdmceiaa
open Go.RowKit

theorem sign_ref (l m : Bool) (w : World) : Calls Try.prog 131 #[.bool l, .bool m] w fun e w' => e = .returned (.int .i64 (signZ l m)) ∧ w = w' := by
  cases l <;> cases m
  all_goals
    go_enter Try.func131, Try.ntmps131
    go_wp2
    go_ret
    exact ⟨rfl, rfl⟩
theorem part_ref (n : Int) (w : World) : Calls Try.prog 137 #[.int .i64 n] w fun e w' => e = .returned (.bool (partB n)) ∧ w = w' := by
  obtain ⟨r, hr⟩ : ∃ r, r = partB n := ⟨_, rfl⟩
  rw [← hr]
  cases h1 : decide (-1048576 ≤ n) <;> cases h2 : decide (n ≤ 1048576)
  all_goals
    have hR : Q (r = (decide (-1048576 ≤ n) && decide (n ≤ 1048576))) := ⟨hr⟩
    rw [h1, h2] at hR
    clear hr
    go_enter Try.func137, Try.ntmps137
    go_wp2
    go_ret
    exact ⟨by rw [hR.out]; rfl, rfl⟩
end Go.Proofs.Ytifakbipdmceiaa
end
