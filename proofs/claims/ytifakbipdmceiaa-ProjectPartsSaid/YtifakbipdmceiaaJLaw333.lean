import Derived.Test.YtifakbipdmceiaaJLaw322
set_option linter.unusedVariables false
set_option linter.unusedSimpArgs false
namespace Go.Proofs.Ytifakbipdmceiaa
open Go.RowKit

set_option maxHeartbeats 1000000 in
set_option maxRecDepth 100000 in
theorem texts_refl (xs : List ByteArray) (A A' : Option Addr) (c c' B0 N0 B1 N1 : Nat) (w : World) (hx0 : Row sEl B0 N0 w A xs) (hy0 : Row sEl B1 N1 w A' xs) (hN : N0 ≤ w.heap.size) (hN1 : N1 ≤ w.heap.size) :
    Calls Try.prog 18 #[.slice A xs.length c, .slice A' xs.length c'] w fun e w' => e = .returned (.bool true) ∧ Below w.heap.size w w' := by
  have hlen := hx0.lenS
  have hx := Q.mk hx0
  have hy := Q.mk hy0
  have e0 : ((xs.length : Int) != (xs.length : Int)) = false := by simp
  clear hx0 hy0
  go_enter Try.func18, Try.ntmps18
  go_wp2_with fail
  go_loopw [5] (fun i wr => ∃ j : Nat, j ≤ xs.length ∧ i = .int .i64 j ∧ Below w.heap.size w wr) (fun i _ => xs.length - (intOf i).toNat)
  case atStart => exact ⟨0, Nat.zero_le _, rfl, Below.refl _ _⟩
  case round =>
    obtain ⟨j, hj, rfl, hB⟩ := hrel
    by_cases hlt : j < xs.length
    · obtain ⟨b, o, rfl, _, _, _, x0⟩ := (hx.out.below hB hN).atS j hlt
      obtain ⟨b', o', rfl, _, _, _, y0⟩ := (hy.out.below hB hN1).atS j hlt
      obtain ⟨s, hs⟩ : ∃ s, s = xs[j] := ⟨_, rfl⟩
      rw [← hs] at x0 y0
      have e1 : (s.toList != s.toList) = false := by simp
      clear hs
      go_wp2
      go_region_held3 (fun w' => w'.cell? ⟨b, o + j, none⟩ = some (.string s) ∧ w'.cell? ⟨b', o' + j, none⟩ = some (.string s)) (go_keep) (fail)
      go_wp2
      go_roundw
      case rel => exact ⟨j + 1, by omega, by go_num, hB.drew⟩
      case measure => simp [intOf]; omega
    · go_wp2
      go_ret
      exact ⟨rfl, hB⟩
end Go.Proofs.Ytifakbipdmceiaa
