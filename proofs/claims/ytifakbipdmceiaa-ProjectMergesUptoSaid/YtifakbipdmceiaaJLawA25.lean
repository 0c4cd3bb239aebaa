import Derived.Test.YtifakbipdmceiaaJLawA2
import Derived.Test.YtifakbipdmceiaaJLawA9
import Derived.Test.YtifakbipdmceiaaWLast
import Derived.Laws.BitsLemmas
set_option linter.unusedVariables false
set_option linter.unusedSimpArgs false
namespace Go.Proofs.Ytifakbipdmceiaa
open Go.RowKit Go.Proofs.YtifakbipdmceiaaW.PrintLast

/-! ### the reference's runes -/
def bN (s : ByteArray) (i : Nat) : Int := ((s.get! i).toNat : Int)
theorem bN_lo (s : ByteArray) (i : Nat) : 0 ≤ bN s i := by unfold bN; omega
theorem bN_hi (s : ByteArray) (i : Nat) : bN s i < 256 := by have := (s.get! i).toNat_lt; unfold bN; omega
theorem bN_at (s : ByteArray) (i : Nat) (h : i < s.size) : (s[i].toNat : Int) = bN s i := by
  have e : s.get! i = s[i] := by cases s with | mk d => exact getElem!_pos d i h
  unfold bN; rw [e]
def contB (s : ByteArray) (i : Nat) (lo hi : Int) : Bool := decide (i < s.size) && decide (lo ≤ bN s i) && decide (bN s i ≤ hi)
theorem contB_lt {s : ByteArray} {i : Nat} {lo hi : Int} (h : contB s i lo hi = true) : i < s.size := by
  simp only [contB, Bool.and_eq_true, decide_eq_true_eq] at h; exact h.1.1
set_option maxHeartbeats 1000000 in
set_option maxRecDepth 100000 in
theorem cont_ref (s : ByteArray) (i : Nat) (lo hi : Int) (z : Int) (w : World) (hz : z = i) (hi0 : i ≤ 140737488355400) :
    Calls Try.prog 150 #[.string s, .int .i64 z, .int .u8 lo, .int .u8 hi] w fun e w' => e = .returned (.bool (contB s i lo hi)) ∧ w = w' := by
  subst hz
  obtain ⟨r, hr⟩ : ∃ r, Q (r = contB s i lo hi) := ⟨_, ⟨rfl⟩⟩
  rw [← hr.out]
  by_cases h : i < s.size
  · have hR : Q (r = (decide (lo ≤ (s[i].toNat : Int)) && decide ((s[i].toNat : Int) ≤ hi))) := ⟨by rw [hr.out, contB, bN_at s i h]; simp [h]⟩
    clear hr
    go_enter Try.func150, Try.ntmps150
    go_wp2_with fail
    · have h1 : lo ≤ (s[i].toNat : Int) := by assumption
      go_ret
      exact ⟨by rw [hR.out]; simp [h1], rfl⟩
    · have h1 : (s[i].toNat : Int) < lo := by assumption
      have h2 : ¬ lo ≤ (s[i].toNat : Int) := by omega
      go_ret
      exact ⟨by rw [hR.out]; simp [h2], rfl⟩
  · have hR : Q (r = false) := ⟨by rw [hr.out, contB]; simp [h]⟩
    have t1 : decide ((i : Int) < (s.size : Int)) = false := by simp; omega
    go_enter Try.func150, Try.ntmps150
    go_wp2_with fail
    go_ret
    exact ⟨by rw [hR.out]; rfl, rfl⟩

theorem box_set3 {w : World} {g : Nat} {t : TypeId} {a0 a1 a2 b0 b1 b2 : Value} (h : w.heap[g]? = some (.cells #[a0, a1, a2] t (0, 0))) :
    (((w.setCell ⟨g, 0, none⟩ b0).setCell ⟨g, 1, none⟩ b1).setCell ⟨g, 2, none⟩ b2).heap[g]? = some (.cells #[b0, b1, b2] t (0, 0)) := by
  have h3 := box_set (box_set (box_set h 0 b0) 1 b1) 2 b2
  simpa using h3
theorem _root_.Go.RowKit.Below.set3 {M : Nat} {w0 w : World} {g : Nat} {b0 b1 b2 : Value} (h : Below M w0 w) (hg : M ≤ g) : Below M w0 (((w.setCell ⟨g, 0, none⟩ b0).setCell ⟨g, 1, none⟩ b1).setCell ⟨g, 2, none⟩ b2) :=
  Below.setCell (Below.setCell (Below.setCell h (p := ⟨g, 0, none⟩) hg b0) (p := ⟨g, 1, none⟩) hg b1) (p := ⟨g, 2, none⟩) hg b2
def loE (b : Int) : Int := if b = 224 then 160 else 128
def hiE (b : Int) : Int := if b = 237 then 159 else 191
def loF (b : Int) : Int := if b = 240 then 144 else 128
def hiF (b : Int) : Int := if b = 244 then 143 else 191
/-- The rune at a place, and how many bytes it has. -/
def oneR (s : ByteArray) (i : Nat) : Int × Nat :=
  if bN s i < 128 then (bN s i, 1)
  else if 194 ≤ bN s i ∧ bN s i ≤ 223 then (if contB s (i + 1) 128 191 = true then (bN s i % 32 * 64 + bN s (i + 1) % 64, 2) else (-1, 1))
  else if 224 ≤ bN s i ∧ bN s i ≤ 239 then (if contB s (i + 1) (loE (bN s i)) (hiE (bN s i)) = true ∧ contB s (i + 2) 128 191 = true then (bN s i % 16 * 4096 + bN s (i + 1) % 64 * 64 + bN s (i + 2) % 64, 3) else (-1, 1))
  else if 240 ≤ bN s i ∧ bN s i ≤ 244 then (if contB s (i + 1) (loF (bN s i)) (hiF (bN s i)) = true ∧ contB s (i + 2) 128 191 = true ∧ contB s (i + 3) 128 191 = true then (bN s i % 8 * 262144 + bN s (i + 1) % 64 * 4096 + bN s (i + 2) % 64 * 64 + bN s (i + 3) % 64, 4) else (-1, 1))
  else (-1, 1)
theorem i64_or (i : Nat) (x y : Int) (hi : i ≤ 62) (hx0 : 0 ≤ x) (hx : x % 2 ^ i = 0) (hx1 : x < 2 ^ 62) (hy0 : 0 ≤ y) (hy : y < 2 ^ i) (hy1 : y < 2 ^ 62) : bits .or .i64 x y = x + y :=
  bits_join .i64 62 (by decide) (fun n h0 h1 => by rw [IntKind.wrap_i64]; omega) i x y hx0 hx hx1 hy0 hy hy1
theorem box3 {w : World} {g : Nat} {a b c : Value} {t : TypeId} (h : w.heap[g]? = some (.cells #[a, b, c] t (0, 0))) :
    w.cell? ⟨g, 0, none⟩ = some a ∧ w.cell? ⟨g, 1, none⟩ = some b ∧ w.cell? ⟨g, 2, none⟩ = some c ∧ ∀ i, w.frozen? ⟨g, i, none⟩ = false :=
  ⟨box_cells h 0, box_cells h 1, box_cells h 2, box_free h⟩
set_option maxHeartbeats 4000000 in
set_option maxRecDepth 100000 in
theorem one_a (s : ByteArray) (i : Nat) (w : World) (hi : i < s.size) (hs : s.size ≤ 140737488355328) (b : Int) (hb : (s[i].toNat : Int) = b) (lo0 : 0 ≤ b) (hi0 : b < 256) (h1 : b < 128) (r : Int × Nat) (hR : Q (r = (b, 1))) :
    Calls Try.prog 148 #[.string s, .int .i64 i] w fun e w' => e = .returned (.agg #[.int .i64 r.1, .int .i64 i, .int .i64 (r.2 : Nat)]) ∧ Below w.heap.size w w' := by
  go_enter Try.func148, Try.ntmps148
  go_wp2_with fail
  refine bodyPost_ret (results_cell_row rfl _ _ w.heap.size 164 #[.int .i64 b, .int .i64 i, .int .i64 1] (0, 0) _ rfl (heap_alloc_new _ _) Try.underlying164 rfl (by kernel_rfl)) rfl ⟨by rw [hR.out]; rfl, (Below.refl _ _).alloc (Nat.le_refl _) _⟩
set_option maxHeartbeats 4000000 in
set_option maxRecDepth 100000 in
theorem one_n (s : ByteArray) (i : Nat) (w : World) (hi : i < s.size) (hs : s.size ≤ 140737488355328) (b : Int) (hb : (s[i].toNat : Int) = b) (lo0 : 0 ≤ b) (hi0 : b < 256) (h1 : 128 ≤ b) (h2 : b < 194 ∨ 244 < b) (r : Int × Nat) (hR : Q (r = (-1, 1))) :
    Calls Try.prog 148 #[.string s, .int .i64 i] w fun e w' => e = .returned (.agg #[.int .i64 r.1, .int .i64 i, .int .i64 (r.2 : Nat)]) ∧ Below w.heap.size w w' := by
  have t1 : decide (b < 128) = false := by simp; omega
  rcases h2 with h2 | h2
  · have t2 : decide (194 ≤ b) = false := by simp; omega
    have t3 : decide (224 ≤ b) = false := by simp; omega
    have t4 : decide (240 ≤ b) = false := by simp; omega
    go_enter Try.func148, Try.ntmps148
    go_wp2_with fail
    refine bodyPost_ret (results_cell_row rfl _ _ w.heap.size 164 #[.int .i64 (-1), .int .i64 i, .int .i64 1] (0, 0) _ rfl (heap_alloc_new _ _) Try.underlying164 rfl (by kernel_rfl)) rfl ⟨by rw [hR.out]; rfl, (Below.refl _ _).alloc (Nat.le_refl _) _⟩
  · have t2 : decide (194 ≤ b) = true := by simp; omega
    have t3 : decide (224 ≤ b) = true := by simp; omega
    have t4 : decide (240 ≤ b) = true := by simp; omega
    have t5 : decide (b ≤ 223) = false := by simp; omega
    have t6 : decide (b ≤ 239) = false := by simp; omega
    have t7 : decide (b ≤ 244) = false := by simp; omega
    go_enter Try.func148, Try.ntmps148
    go_wp2_with fail
    refine bodyPost_ret (results_cell_row rfl _ _ w.heap.size 164 #[.int .i64 (-1), .int .i64 i, .int .i64 1] (0, 0) _ rfl (heap_alloc_new _ _) Try.underlying164 rfl (by kernel_rfl)) rfl ⟨by rw [hR.out]; rfl, (Below.refl _ _).alloc (Nat.le_refl _) _⟩
set_option maxHeartbeats 4000000 in
set_option maxRecDepth 100000 in
theorem one_c0 (s : ByteArray) (i : Nat) (w : World) (hi : i < s.size) (hs : s.size ≤ 140737488355328) (b : Int) (hb : (s[i].toNat : Int) = b) (lo0 : 0 ≤ b) (hi0 : b < 256) (h1 : 194 ≤ b) (h2 : b ≤ 223) (c1 : Q (contB s (i + 1) 128 191 = false)) (r : Int × Nat) (hR : Q (r = (-1, 1))) :
    Calls Try.prog 148 #[.string s, .int .i64 i] w fun e w' => e = .returned (.agg #[.int .i64 r.1, .int .i64 i, .int .i64 (r.2 : Nat)]) ∧ Below w.heap.size w w' := by
  have t1 : decide (b < 128) = false := by simp; omega
  have t2 : decide (194 ≤ b) = true := by simp; omega
  have t3 : decide (b ≤ 223) = true := by simp; omega
  go_enter Try.func148, Try.ntmps148
  go_wp2_with (go_at_call 150; with_reducible refine (cont_ref s (i + 1) 128 191 _ _ ?hz1 (by omega)).mono ?_; (case hz1 => push_cast; rfl); rw [c1.out]; rintro e w2 ⟨rfl, rfl⟩)
  refine bodyPost_ret (results_cell_row rfl _ _ w.heap.size 164 #[.int .i64 (-1), .int .i64 i, .int .i64 1] (0, 0) _ rfl (heap_alloc_new _ _) Try.underlying164 rfl (by kernel_rfl)) rfl ⟨by rw [hR.out]; rfl, (Below.refl _ _).alloc (Nat.le_refl _) _⟩
set_option maxHeartbeats 4000000 in
set_option maxRecDepth 100000 in
theorem one_c1 (s : ByteArray) (i : Nat) (w : World) (hi : i < s.size) (hs : s.size ≤ 140737488355328) (b : Int) (hb : (s[i].toNat : Int) = b) (lo0 : 0 ≤ b) (hi0 : b < 256) (h1 : 194 ≤ b) (h2 : b ≤ 223) (c1 : Q (contB s (i + 1) 128 191 = true)) (hi1 : i + 1 < s.size) (b1 : Int) (hb1 : ((s[i + 1]'hi1).toNat : Int) = b1) (l1 : 0 ≤ b1) (u1 : b1 < 256) (r : Int × Nat) (hR : Q (r = (b % 32 * 64 + b1 % 64, 2))) :
    Calls Try.prog 148 #[.string s, .int .i64 i] w fun e w' => e = .returned (.agg #[.int .i64 r.1, .int .i64 i, .int .i64 (r.2 : Nat)]) ∧ Below w.heap.size w w' := by
  have t1 : decide (b < 128) = false := by simp; omega
  have t2 : decide (194 ≤ b) = true := by simp; omega
  have t3 : decide (b ≤ 223) = true := by simp; omega
  have j1 := u8_and31 b lo0 hi0
  have j2 := u8_and63 b1 l1 u1
  have m1 : 0 ≤ b % 32 := by omega
  have m2 : b % 32 < 32 := by omega
  have m3 : 0 ≤ b1 % 64 := by omega
  have m4 : b1 % 64 < 64 := by omega
  have j3 := i64_or 6 (b % 32 * 64) (b1 % 64) (by omega) (by omega) (by omega) (by omega) (by omega) (by omega) (by omega)
  go_enter Try.func148, Try.ntmps148
  go_wp2_with (go_at_call 150; with_reducible refine (cont_ref s (i + 1) 128 191 _ _ ?hz1 (by omega)).mono ?_; (case hz1 => push_cast; rfl); rw [c1.out]; rintro e w2 ⟨rfl, rfl⟩)
  refine bodyPost_ret (results_cell_row rfl _ _ w.heap.size 164 #[.int .i64 (b % 32 * 64 + b1 % 64), .int .i64 i, .int .i64 2] (0, 0) _ rfl (heap_alloc_new _ _) Try.underlying164 rfl (by kernel_rfl)) rfl ⟨by rw [hR.out]; rfl, (Below.refl _ _).alloc (Nat.le_refl _) _⟩
set_option maxHeartbeats 4000000 in
set_option maxRecDepth 100000 in
theorem one_d0a (s : ByteArray) (i : Nat) (w : World) (hi : i < s.size) (hs : s.size ≤ 140737488355328) (b : Int) (hb : (s[i].toNat : Int) = b) (lo0 : 0 ≤ b) (hi0 : b < 256) (h1 : 224 ≤ b) (h2 : b ≤ 239) (ea : (b == 224) = true) (eb : (b == 237) = false) (c1 : Q (contB s (i + 1) 160 191 = false)) (r : Int × Nat) (hR : Q (r = (-1, 1))) :
    Calls Try.prog 148 #[.string s, .int .i64 i] w fun e w' => e = .returned (.agg #[.int .i64 r.1, .int .i64 i, .int .i64 (r.2 : Nat)]) ∧ Below w.heap.size w w' := by
  have t1 : decide (b < 128) = false := by simp; omega
  have t2 : decide (194 ≤ b) = true := by simp; omega
  have t3 : decide (b ≤ 223) = false := by simp; omega
  have t4 : decide (224 ≤ b) = true := by simp; omega
  have t5 : decide (b ≤ 239) = true := by simp; omega
  go_enter Try.func148, Try.ntmps148
  go_wp2_with (go_at_call 150; with_reducible refine (cont_ref s (i + 1) 160 191 _ _ (by omega) (by omega)).mono ?_; rw [c1.out]; rintro e w2 ⟨rfl, rfl⟩)
  refine bodyPost_ret (results_cell_row rfl _ _ w.heap.size 164 #[.int .i64 (-1), .int .i64 i, .int .i64 1] (0, 0) _ rfl (heap_alloc_new _ _) Try.underlying164 rfl (by kernel_rfl)) rfl ⟨by rw [hR.out]; rfl, (Below.refl _ _).alloc (Nat.le_refl _) _⟩
set_option maxHeartbeats 4000000 in
set_option maxRecDepth 100000 in
theorem one_d1a (s : ByteArray) (i : Nat) (w : World) (hi : i < s.size) (hs : s.size ≤ 140737488355328) (b : Int) (hb : (s[i].toNat : Int) = b) (lo0 : 0 ≤ b) (hi0 : b < 256) (h1 : 224 ≤ b) (h2 : b ≤ 239) (ea : (b == 224) = true) (eb : (b == 237) = false) (c1 : Q (contB s (i + 1) 160 191 = true)) (c2 : Q (contB s (i + 2) 128 191 = false)) (r : Int × Nat) (hR : Q (r = (-1, 1))) :
    Calls Try.prog 148 #[.string s, .int .i64 i] w fun e w' => e = .returned (.agg #[.int .i64 r.1, .int .i64 i, .int .i64 (r.2 : Nat)]) ∧ Below w.heap.size w w' := by
  have t1 : decide (b < 128) = false := by simp; omega
  have t2 : decide (194 ≤ b) = true := by simp; omega
  have t3 : decide (b ≤ 223) = false := by simp; omega
  have t4 : decide (224 ≤ b) = true := by simp; omega
  have t5 : decide (b ≤ 239) = true := by simp; omega
  go_enter Try.func148, Try.ntmps148
  go_wp2_with (first | (go_at_call 150; with_reducible refine (cont_ref s (i + 1) 160 191 _ _ (by omega) (by omega)).mono ?_; rw [c1.out]; rintro e w2 ⟨rfl, rfl⟩) | (go_at_call 150; with_reducible refine (cont_ref s (i + 2) 128 191 _ _ (by omega) (by omega)).mono ?_; rw [c2.out]; rintro e w2 ⟨rfl, rfl⟩))
  refine bodyPost_ret (results_cell_row rfl _ _ w.heap.size 164 #[.int .i64 (-1), .int .i64 i, .int .i64 1] (0, 0) _ rfl (heap_alloc_new _ _) Try.underlying164 rfl (by kernel_rfl)) rfl ⟨by rw [hR.out]; rfl, (Below.refl _ _).alloc (Nat.le_refl _) _⟩
set_option maxHeartbeats 4000000 in
set_option maxRecDepth 100000 in
theorem one_d2a (s : ByteArray) (i : Nat) (w : World) (hi : i < s.size) (hs : s.size ≤ 140737488355328) (b : Int) (hb : (s[i].toNat : Int) = b) (lo0 : 0 ≤ b) (hi0 : b < 256) (h1 : 224 ≤ b) (h2 : b ≤ 239) (ea : (b == 224) = true) (eb : (b == 237) = false) (c1 : Q (contB s (i + 1) 160 191 = true)) (c2 : Q (contB s (i + 2) 128 191 = true)) (hi1 : i + 1 < s.size) (b1 : Int) (hb1 : ((s[i + 1]'hi1).toNat : Int) = b1) (l1 : 0 ≤ b1) (u1 : b1 < 256) (hi2 : i + 2 < s.size) (b2 : Int) (hb2 : ((s[i + 2]'hi2).toNat : Int) = b2) (l2 : 0 ≤ b2) (u2 : b2 < 256) (r : Int × Nat) (hR : Q (r = (b % 16 * 4096 + b1 % 64 * 64 + b2 % 64, 3))) :
    Calls Try.prog 148 #[.string s, .int .i64 i] w fun e w' => e = .returned (.agg #[.int .i64 r.1, .int .i64 i, .int .i64 (r.2 : Nat)]) ∧ Below w.heap.size w w' := by
  have t1 : decide (b < 128) = false := by simp; omega
  have t2 : decide (194 ≤ b) = true := by simp; omega
  have t3 : decide (b ≤ 223) = false := by simp; omega
  have t4 : decide (224 ≤ b) = true := by simp; omega
  have t5 : decide (b ≤ 239) = true := by simp; omega
  have hs2 : s.size < 4611686018427387904 := by omega
  have Q1 : Q ((0 : Int) ≤ (i : Int) + 1) := ⟨by omega⟩
  have Q2 : Q ((i : Int) + 1 < (s.size : Int)) := ⟨by omega⟩
  have Q3 : Q (((i : Int) + 1).toNat = i + 1) := ⟨by omega⟩
  have Q4 : Q ((0 : Int) ≤ (i : Int) + 2) := ⟨by omega⟩
  have Q5 : Q ((i : Int) + 2 < (s.size : Int)) := ⟨by omega⟩
  have Q6 : Q (((i : Int) + 2).toNat = i + 2) := ⟨by omega⟩
  have V0 : Q (wrap64 ((i : Int) + 1) = (i : Int) + 1) := ⟨IntWalk.wrap64_in _ (by omega)⟩
  have V1 : Q (wrap64 ((i : Int) + 2) = (i : Int) + 2) := ⟨IntWalk.wrap64_in _ (by omega)⟩
  have V2 : Q (wrap64 (b % 16) = b % 16) := ⟨IntWalk.wrap64_in _ (by omega)⟩
  have V3 : Q (wrap64 (b1 % 64) = b1 % 64) := ⟨IntWalk.wrap64_in _ (by omega)⟩
  have V4 : Q (wrap64 (b2 % 64) = b2 % 64) := ⟨IntWalk.wrap64_in _ (by omega)⟩
  have V5 : Q (wrap64 (b % 16 * 4096) = b % 16 * 4096) := ⟨IntWalk.wrap64_in _ (by omega)⟩
  have V6 : Q (wrap64 (b1 % 64 * 64) = b1 % 64 * 64) := ⟨IntWalk.wrap64_in _ (by omega)⟩
  have G0 := Q.mk (heap_alloc_new w (.cells #[.int .i64 0, .int .i64 0, .int .i64 0] 164))
  have BB : Below w.heap.size w (w.alloc (.cells #[.int .i64 0, .int .i64 0, .int .i64 0] 164)) := (Below.refl _ _).alloc (Nat.le_refl _) _
  replace BB := Q.mk BB
  have j1 := u8_and15 b lo0 hi0
  have j2 := u8_and63 b1 l1 u1
  have j3 := u8_and63 b2 l2 u2
  have m1 : 0 ≤ b % 16 := by omega
  have m2 : b % 16 < 16 := by omega
  have m3 : 0 ≤ b1 % 64 := by omega
  have m4 : b1 % 64 < 64 := by omega
  have m5 : 0 ≤ b2 % 64 := by omega
  have m6 : b2 % 64 < 64 := by omega
  have j4 := i64_or 12 (b % 16 * 4096) (b1 % 64 * 64) (by omega) (by omega) (by omega) (by omega) (by omega) (by omega) (by omega)
  have j5 := i64_or 6 (b % 16 * 4096 + b1 % 64 * 64) (b2 % 64) (by omega) (by omega) (by omega) (by omega) (by omega) (by omega) (by omega)
  go_enter Try.func148, Try.ntmps148
  go_wp2_with (first | (go_at_call 150; with_reducible refine (cont_ref s (i + 1) 160 191 _ _ (by omega) (by omega)).mono ?_; rw [c1.out]; rintro e w2 ⟨rfl, rfl⟩) | (go_at_call 150; with_reducible refine (cont_ref s (i + 2) 128 191 _ _ (by omega) (by omega)).mono ?_; rw [c2.out]; rintro e w2 ⟨rfl, rfl⟩))
  have q1 := Q1.out
  have q2 := Q2.out
  have q3 := Q3.out
  have q4 := Q4.out
  have q5 := Q5.out
  have q6 := Q6.out
  have v0 := V0.out
  have v1 := V1.out
  have v2 := V2.out
  have v3 := V3.out
  have v4 := V4.out
  have v5 := V5.out
  have v6 := V6.out
  refine start_ (n := 22) (S := fun w' => Q (Below w.heap.size w w') ∧ Q (w'.heap[w.heap.size]? = some (.cells #[.int .i64 0, .int .i64 0, .int .i64 0] 164 (0, 0)))) (ds := [21]) #[false, false, false, false, false, false, false, false, false, false, false, false, false, false, false, false, false, false, false, false, false, false] (by kernel_rfl) rfl rfl ⟨⟨BB.out.drew⟩, ⟨G0.out⟩⟩ (fun hHeld => ?_)
  refine pure_ (i := 0) (N := some 67) (v := ?_) (a' := ?_) #[true, false, false, false, false, false, false, false, false, false, false, false, false, false, false, false, false, false, false, false, false, false] rfl rfl (by kernel_rfl) (fun _ _ _ h => h) (Or.inl ⟨by rfl, ?_⟩) ?_ ?_
  rotate_left
  · intro w'
    go_simp
    with_reducible rfl
  rotate_left
  · simp only [Act.put, List.setIfInBounds_toArray, List.set_cons_zero, List.set_cons_succ, i64_w, i32_w]
    rfl
  refine pure_ (i := 1) (N := some 68) (v := ?_) (a' := ?_) #[true, true, false, false, false, false, false, false, false, false, false, false, false, false, false, false, false, false, false, false, false, false] rfl rfl (by kernel_rfl) (fun _ _ _ h => h) (Or.inl ⟨by rfl, ?_⟩) ?_ ?_
  rotate_left
  · intro w'
    go_simp
    with_reducible rfl
  rotate_left
  · simp only [Act.put, List.setIfInBounds_toArray, List.set_cons_zero, List.set_cons_succ, i64_w, i32_w]
    rfl
  refine pure_ (i := 2) (N := some 69) (v := ?_) (a' := ?_) #[true, true, true, false, false, false, false, false, false, false, false, false, false, false, false, false, false, false, false, false, false, false] rfl rfl (by kernel_rfl) (fun _ _ _ h => h) (Or.inl ⟨by rfl, ?_⟩) ?_ ?_
  rotate_left
  · intro w'
    go_simp
    with_reducible rfl
  rotate_left
  · simp only [Act.put, List.setIfInBounds_toArray, List.set_cons_zero, List.set_cons_succ, i64_w, i32_w]
    rfl
  refine pure_ (i := 3) (N := some 70) (v := ?_) (a' := ?_) #[true, true, true, true, false, false, false, false, false, false, false, false, false, false, false, false, false, false, false, false, false, false] rfl rfl (by kernel_rfl) (fun _ _ _ h => h) (Or.inl ⟨by rfl, ?_⟩) ?_ ?_
  rotate_left
  · intro w'
    go_simp
    with_reducible rfl
  rotate_left
  · simp only [Act.put, List.setIfInBounds_toArray, List.set_cons_zero, List.set_cons_succ, i64_w, i32_w]
    rfl
  refine pure_ (i := 4) (N := some 71) (v := ?_) (a' := ?_) #[true, true, true, true, true, false, false, false, false, false, false, false, false, false, false, false, false, false, false, false, false, false] rfl rfl (by kernel_rfl) (fun _ _ _ h => h) (Or.inl ⟨by rfl, ?_⟩) ?_ ?_
  rotate_left
  · intro w'
    go_simp
    with_reducible rfl
  rotate_left
  · simp only [Act.put, List.setIfInBounds_toArray, List.set_cons_zero, List.set_cons_succ, i64_w, i32_w]
    rfl
  refine pure_ (i := 5) (N := some 72) (v := ?_) (a' := ?_) #[true, true, true, true, true, true, false, false, false, false, false, false, false, false, false, false, false, false, false, false, false, false] rfl rfl (by kernel_rfl) (fun _ _ _ h => h) (Or.inl ⟨by rfl, ?_⟩) ?_ ?_
  rotate_left
  · intro w'
    go_simp
    with_reducible rfl
  rotate_left
  · simp only [Act.put, List.setIfInBounds_toArray, List.set_cons_zero, List.set_cons_succ, i64_w, i32_w]
    rfl
  refine pure_ (i := 6) (N := some 73) (v := ?_) (a' := ?_) #[true, true, true, true, true, true, true, false, false, false, false, false, false, false, false, false, false, false, false, false, false, false] rfl rfl (by kernel_rfl) (fun _ _ _ h => h) (Or.inl ⟨by rfl, ?_⟩) ?_ ?_
  rotate_left
  · intro w'
    go_simp
    with_reducible rfl
  rotate_left
  · simp only [Act.put, List.setIfInBounds_toArray, List.set_cons_zero, List.set_cons_succ, i64_w, i32_w]
    rfl
  refine pure_ (i := 7) (N := some 74) (v := ?_) (a' := ?_) #[true, true, true, true, true, true, true, true, false, false, false, false, false, false, false, false, false, false, false, false, false, false] rfl rfl (by kernel_rfl) (fun _ _ _ h => h) (Or.inl ⟨by rfl, ?_⟩) ?_ ?_
  rotate_left
  · intro w'
    go_simp
    with_reducible rfl
  rotate_left
  · simp only [Act.put, List.setIfInBounds_toArray, List.set_cons_zero, List.set_cons_succ, i64_w, i32_w]
    rfl
  refine pure_ (i := 8) (N := some 75) (v := ?_) (a' := ?_) #[true, true, true, true, true, true, true, true, true, false, false, false, false, false, false, false, false, false, false, false, false, false] rfl rfl (by kernel_rfl) (fun _ _ _ h => h) (Or.inl ⟨by rfl, ?_⟩) ?_ ?_
  rotate_left
  · intro w'
    go_simp
    with_reducible rfl
  rotate_left
  · simp only [Act.put, List.setIfInBounds_toArray, List.set_cons_zero, List.set_cons_succ, i64_w, i32_w]
    rfl
  refine pure_ (i := 9) (N := some 76) (v := ?_) (a' := ?_) #[true, true, true, true, true, true, true, true, true, true, false, false, false, false, false, false, false, false, false, false, false, false] rfl rfl (by kernel_rfl) (fun _ _ _ h => h) (Or.inl ⟨by rfl, ?_⟩) ?_ ?_
  rotate_left
  · intro w'
    go_simp
    with_reducible rfl
  rotate_left
  · simp only [Act.put, List.setIfInBounds_toArray, List.set_cons_zero, List.set_cons_succ, i64_w, i32_w]
    rfl
  refine pure_ (i := 10) (N := some 77) (v := ?_) (a' := ?_) #[true, true, true, true, true, true, true, true, true, true, true, false, false, false, false, false, false, false, false, false, false, false] rfl rfl (by kernel_rfl) (fun _ _ _ h => h) (Or.inl ⟨by rfl, ?_⟩) ?_ ?_
  rotate_left
  · intro w'
    go_simp
    with_reducible rfl
  rotate_left
  · simp only [Act.put, List.setIfInBounds_toArray, List.set_cons_zero, List.set_cons_succ, i64_w, i32_w]
    rfl
  refine pure_ (i := 11) (N := some 78) (v := ?_) (a' := ?_) #[true, true, true, true, true, true, true, true, true, true, true, true, false, false, false, false, false, false, false, false, false, false] rfl rfl (by kernel_rfl) (fun _ _ _ h => h) (Or.inl ⟨by rfl, ?_⟩) ?_ ?_
  rotate_left
  · intro w'
    go_simp
    with_reducible rfl
  rotate_left
  · simp only [Act.put, List.setIfInBounds_toArray, List.set_cons_zero, List.set_cons_succ, i64_w, i32_w]
    rfl
  refine pure_ (i := 12) (N := some 79) (v := ?_) (a' := ?_) #[true, true, true, true, true, true, true, true, true, true, true, true, true, false, false, false, false, false, false, false, false, false] rfl rfl (by kernel_rfl) (fun _ _ _ h => h) (Or.inl ⟨by rfl, ?_⟩) ?_ ?_
  rotate_left
  · intro w'
    go_simp
    with_reducible rfl
  rotate_left
  · simp only [Act.put, List.setIfInBounds_toArray, List.set_cons_zero, List.set_cons_succ, i64_w, i32_w]
    rfl
  refine pure_ (i := 13) (N := some 80) (v := ?_) (a' := ?_) #[true, true, true, true, true, true, true, true, true, true, true, true, true, true, false, false, false, false, false, false, false, false] rfl rfl (by kernel_rfl) (fun _ _ _ h => h) (Or.inl ⟨by rfl, ?_⟩) ?_ ?_
  rotate_left
  · intro w'
    go_simp
    with_reducible rfl
  rotate_left
  · simp only [Act.put, List.setIfInBounds_toArray, List.set_cons_zero, List.set_cons_succ, i64_w, i32_w]
    rfl
  refine pure_ (i := 14) (N := some 81) (v := ?_) (a' := ?_) #[true, true, true, true, true, true, true, true, true, true, true, true, true, true, true, false, false, false, false, false, false, false] rfl rfl (by kernel_rfl) (fun _ _ _ h => h) (Or.inl ⟨by rfl, ?_⟩) ?_ ?_
  rotate_left
  · intro w'
    go_simp
    with_reducible rfl
  rotate_left
  · simp only [Act.put, List.setIfInBounds_toArray, List.set_cons_zero, List.set_cons_succ, i64_w, i32_w]
    rfl
  refine pure_ (i := 15) (N := some 82) (v := ?_) (a' := ?_) #[true, true, true, true, true, true, true, true, true, true, true, true, true, true, true, true, false, false, false, false, false, false] rfl rfl (by kernel_rfl) (fun _ _ _ h => h) (Or.inl ⟨by rfl, ?_⟩) ?_ ?_
  rotate_left
  · intro w'
    go_simp
    with_reducible rfl
  rotate_left
  · simp only [Act.put, List.setIfInBounds_toArray, List.set_cons_zero, List.set_cons_succ, i64_w, i32_w]
    rfl
  refine pure_ (i := 16) (N := some 83) (v := ?_) (a' := ?_) #[true, true, true, true, true, true, true, true, true, true, true, true, true, true, true, true, true, false, false, false, false, false] rfl rfl (by kernel_rfl) (fun _ _ _ h => h) (Or.inl ⟨by rfl, ?_⟩) ?_ ?_
  rotate_left
  · intro w'
    go_simp
    with_reducible rfl
  rotate_left
  · simp only [Act.put, List.setIfInBounds_toArray, List.set_cons_zero, List.set_cons_succ, i64_w, i32_w]
    rfl
  refine pure_ (i := 17) (N := some 84) (v := ?_) (a' := ?_) #[true, true, true, true, true, true, true, true, true, true, true, true, true, true, true, true, true, true, false, false, false, false] rfl rfl (by kernel_rfl) (fun _ _ _ h => h) (Or.inl ⟨by rfl, ?_⟩) ?_ ?_
  rotate_left
  · intro w'
    go_simp
    with_reducible rfl
  rotate_left
  · simp only [Act.put, List.setIfInBounds_toArray, List.set_cons_zero, List.set_cons_succ, i64_w, i32_w]
    rfl
  refine pure_ (i := 18) (N := some 85) (v := ?_) (a' := ?_) #[true, true, true, true, true, true, true, true, true, true, true, true, true, true, true, true, true, true, true, false, false, false] rfl rfl (by kernel_rfl) (fun _ _ _ h => h) (Or.inl ⟨by rfl, ?_⟩) ?_ ?_
  rotate_left
  · intro w'
    go_simp
    with_reducible rfl
  rotate_left
  · simp only [Act.put, List.setIfInBounds_toArray, List.set_cons_zero, List.set_cons_succ, i64_w, i32_w]
    rfl
  refine pure_ (i := 19) (N := some 86) (v := ?_) (a' := ?_) #[true, true, true, true, true, true, true, true, true, true, true, true, true, true, true, true, true, true, true, true, false, false] rfl rfl (by kernel_rfl) (fun _ _ _ h => h) (Or.inl ⟨by rfl, ?_⟩) ?_ ?_
  rotate_left
  · intro w'
    go_simp
    with_reducible rfl
  rotate_left
  · simp only [Act.put, List.setIfInBounds_toArray, List.set_cons_zero, List.set_cons_succ, i64_w, i32_w]
    rfl
  refine pure_ (i := 20) (N := some 87) (v := ?_) (a' := ?_) #[true, true, true, true, true, true, true, true, true, true, true, true, true, true, true, true, true, true, true, true, true, false] rfl rfl (by kernel_rfl) (fun _ _ _ h => h) (Or.inl ⟨by rfl, ?_⟩) ?_ ?_
  rotate_left
  · intro w'
    go_simp
    with_reducible rfl
  rotate_left
  · simp only [Act.put, List.setIfInBounds_toArray, List.set_cons_zero, List.set_cons_succ, i64_w, i32_w]
    rfl
  refine last_ (i := 21) (N := none) #[true, true, true, true, true, true, true, true, true, true, true, true, true, true, true, true, true, true, true, true, true, true] rfl rfl (by kernel_rfl) (by decide) (fun K hK => ?_)
  obtain ⟨p0, p1, p2, pf⟩ := box3 hHeld.2.out
  go_simp
  refine hK.out _ _ ?_
  clear hK K
  refine done_ (by kernel_rfl) ?_
  go_wp2_with fail
  refine bodyPost_ret (results_cell_row rfl _ _ w.heap.size 164 #[.int .i64 (b % 16 * 4096 + b1 % 64 * 64 + b2 % 64), .int .i64 i, .int .i64 3] (0, 0) _ rfl (heap_alloc_new _ _) Try.underlying164 rfl (by kernel_rfl)) rfl ⟨by rw [hR.out]; rfl, ((Below.refl _ _).alloc (Nat.le_refl _) _).drew⟩
set_option maxHeartbeats 4000000 in
set_option maxRecDepth 100000 in
theorem one_d0b (s : ByteArray) (i : Nat) (w : World) (hi : i < s.size) (hs : s.size ≤ 140737488355328) (b : Int) (hb : (s[i].toNat : Int) = b) (lo0 : 0 ≤ b) (hi0 : b < 256) (h1 : 224 ≤ b) (h2 : b ≤ 239) (ea : (b == 224) = false) (eb : (b == 237) = true) (c1 : Q (contB s (i + 1) 128 159 = false)) (r : Int × Nat) (hR : Q (r = (-1, 1))) :
    Calls Try.prog 148 #[.string s, .int .i64 i] w fun e w' => e = .returned (.agg #[.int .i64 r.1, .int .i64 i, .int .i64 (r.2 : Nat)]) ∧ Below w.heap.size w w' := by
  have t1 : decide (b < 128) = false := by simp; omega
  have t2 : decide (194 ≤ b) = true := by simp; omega
  have t3 : decide (b ≤ 223) = false := by simp; omega
  have t4 : decide (224 ≤ b) = true := by simp; omega
  have t5 : decide (b ≤ 239) = true := by simp; omega
  go_enter Try.func148, Try.ntmps148
  go_wp2_with (go_at_call 150; with_reducible refine (cont_ref s (i + 1) 128 159 _ _ (by omega) (by omega)).mono ?_; rw [c1.out]; rintro e w2 ⟨rfl, rfl⟩)
  refine bodyPost_ret (results_cell_row rfl _ _ w.heap.size 164 #[.int .i64 (-1), .int .i64 i, .int .i64 1] (0, 0) _ rfl (heap_alloc_new _ _) Try.underlying164 rfl (by kernel_rfl)) rfl ⟨by rw [hR.out]; rfl, (Below.refl _ _).alloc (Nat.le_refl _) _⟩
set_option maxHeartbeats 4000000 in
set_option maxRecDepth 100000 in
theorem one_d1b (s : ByteArray) (i : Nat) (w : World) (hi : i < s.size) (hs : s.size ≤ 140737488355328) (b : Int) (hb : (s[i].toNat : Int) = b) (lo0 : 0 ≤ b) (hi0 : b < 256) (h1 : 224 ≤ b) (h2 : b ≤ 239) (ea : (b == 224) = false) (eb : (b == 237) = true) (c1 : Q (contB s (i + 1) 128 159 = true)) (c2 : Q (contB s (i + 2) 128 191 = false)) (r : Int × Nat) (hR : Q (r = (-1, 1))) :
    Calls Try.prog 148 #[.string s, .int .i64 i] w fun e w' => e = .returned (.agg #[.int .i64 r.1, .int .i64 i, .int .i64 (r.2 : Nat)]) ∧ Below w.heap.size w w' := by
  have t1 : decide (b < 128) = false := by simp; omega
  have t2 : decide (194 ≤ b) = true := by simp; omega
  have t3 : decide (b ≤ 223) = false := by simp; omega
  have t4 : decide (224 ≤ b) = true := by simp; omega
  have t5 : decide (b ≤ 239) = true := by simp; omega
  go_enter Try.func148, Try.ntmps148
  go_wp2_with (first | (go_at_call 150; with_reducible refine (cont_ref s (i + 1) 128 159 _ _ (by omega) (by omega)).mono ?_; rw [c1.out]; rintro e w2 ⟨rfl, rfl⟩) | (go_at_call 150; with_reducible refine (cont_ref s (i + 2) 128 191 _ _ (by omega) (by omega)).mono ?_; rw [c2.out]; rintro e w2 ⟨rfl, rfl⟩))
  refine bodyPost_ret (results_cell_row rfl _ _ w.heap.size 164 #[.int .i64 (-1), .int .i64 i, .int .i64 1] (0, 0) _ rfl (heap_alloc_new _ _) Try.underlying164 rfl (by kernel_rfl)) rfl ⟨by rw [hR.out]; rfl, (Below.refl _ _).alloc (Nat.le_refl _) _⟩
set_option maxHeartbeats 4000000 in
set_option maxRecDepth 100000 in
theorem one_d2b (s : ByteArray) (i : Nat) (w : World) (hi : i < s.size) (hs : s.size ≤ 140737488355328) (b : Int) (hb : (s[i].toNat : Int) = b) (lo0 : 0 ≤ b) (hi0 : b < 256) (h1 : 224 ≤ b) (h2 : b ≤ 239) (ea : (b == 224) = false) (eb : (b == 237) = true) (c1 : Q (contB s (i + 1) 128 159 = true)) (c2 : Q (contB s (i + 2) 128 191 = true)) (hi1 : i + 1 < s.size) (b1 : Int) (hb1 : ((s[i + 1]'hi1).toNat : Int) = b1) (l1 : 0 ≤ b1) (u1 : b1 < 256) (hi2 : i + 2 < s.size) (b2 : Int) (hb2 : ((s[i + 2]'hi2).toNat : Int) = b2) (l2 : 0 ≤ b2) (u2 : b2 < 256) (r : Int × Nat) (hR : Q (r = (b % 16 * 4096 + b1 % 64 * 64 + b2 % 64, 3))) :
    Calls Try.prog 148 #[.string s, .int .i64 i] w fun e w' => e = .returned (.agg #[.int .i64 r.1, .int .i64 i, .int .i64 (r.2 : Nat)]) ∧ Below w.heap.size w w' := by
  have t1 : decide (b < 128) = false := by simp; omega
  have t2 : decide (194 ≤ b) = true := by simp; omega
  have t3 : decide (b ≤ 223) = false := by simp; omega
  have t4 : decide (224 ≤ b) = true := by simp; omega
  have t5 : decide (b ≤ 239) = true := by simp; omega
  have hs2 : s.size < 4611686018427387904 := by omega
  have Q1 : Q ((0 : Int) ≤ (i : Int) + 1) := ⟨by omega⟩
  have Q2 : Q ((i : Int) + 1 < (s.size : Int)) := ⟨by omega⟩
  have Q3 : Q (((i : Int) + 1).toNat = i + 1) := ⟨by omega⟩
  have Q4 : Q ((0 : Int) ≤ (i : Int) + 2) := ⟨by omega⟩
  have Q5 : Q ((i : Int) + 2 < (s.size : Int)) := ⟨by omega⟩
  have Q6 : Q (((i : Int) + 2).toNat = i + 2) := ⟨by omega⟩
  have V0 : Q (wrap64 ((i : Int) + 1) = (i : Int) + 1) := ⟨IntWalk.wrap64_in _ (by omega)⟩
  have V1 : Q (wrap64 ((i : Int) + 2) = (i : Int) + 2) := ⟨IntWalk.wrap64_in _ (by omega)⟩
  have V2 : Q (wrap64 (b % 16) = b % 16) := ⟨IntWalk.wrap64_in _ (by omega)⟩
  have V3 : Q (wrap64 (b1 % 64) = b1 % 64) := ⟨IntWalk.wrap64_in _ (by omega)⟩
  have V4 : Q (wrap64 (b2 % 64) = b2 % 64) := ⟨IntWalk.wrap64_in _ (by omega)⟩
  have V5 : Q (wrap64 (b % 16 * 4096) = b % 16 * 4096) := ⟨IntWalk.wrap64_in _ (by omega)⟩
  have V6 : Q (wrap64 (b1 % 64 * 64) = b1 % 64 * 64) := ⟨IntWalk.wrap64_in _ (by omega)⟩
  have G0 := Q.mk (heap_alloc_new w (.cells #[.int .i64 0, .int .i64 0, .int .i64 0] 164))
  have BB : Below w.heap.size w (w.alloc (.cells #[.int .i64 0, .int .i64 0, .int .i64 0] 164)) := (Below.refl _ _).alloc (Nat.le_refl _) _
  replace BB := Q.mk BB
  have j1 := u8_and15 b lo0 hi0
  have j2 := u8_and63 b1 l1 u1
  have j3 := u8_and63 b2 l2 u2
  have m1 : 0 ≤ b % 16 := by omega
  have m2 : b % 16 < 16 := by omega
  have m3 : 0 ≤ b1 % 64 := by omega
  have m4 : b1 % 64 < 64 := by omega
  have m5 : 0 ≤ b2 % 64 := by omega
  have m6 : b2 % 64 < 64 := by omega
  have j4 := i64_or 12 (b % 16 * 4096) (b1 % 64 * 64) (by omega) (by omega) (by omega) (by omega) (by omega) (by omega) (by omega)
  have j5 := i64_or 6 (b % 16 * 4096 + b1 % 64 * 64) (b2 % 64) (by omega) (by omega) (by omega) (by omega) (by omega) (by omega) (by omega)
  go_enter Try.func148, Try.ntmps148
  go_wp2_with (first | (go_at_call 150; with_reducible refine (cont_ref s (i + 1) 128 159 _ _ (by omega) (by omega)).mono ?_; rw [c1.out]; rintro e w2 ⟨rfl, rfl⟩) | (go_at_call 150; with_reducible refine (cont_ref s (i + 2) 128 191 _ _ (by omega) (by omega)).mono ?_; rw [c2.out]; rintro e w2 ⟨rfl, rfl⟩))
  have q1 := Q1.out
  have q2 := Q2.out
  have q3 := Q3.out
  have q4 := Q4.out
  have q5 := Q5.out
  have q6 := Q6.out
  have v0 := V0.out
  have v1 := V1.out
  have v2 := V2.out
  have v3 := V3.out
  have v4 := V4.out
  have v5 := V5.out
  have v6 := V6.out
  refine start_ (n := 22) (S := fun w' => Q (Below w.heap.size w w') ∧ Q (w'.heap[w.heap.size]? = some (.cells #[.int .i64 0, .int .i64 0, .int .i64 0] 164 (0, 0)))) (ds := [21]) #[false, false, false, false, false, false, false, false, false, false, false, false, false, false, false, false, false, false, false, false, false, false] (by kernel_rfl) rfl rfl ⟨⟨BB.out.drew⟩, ⟨G0.out⟩⟩ (fun hHeld => ?_)
  refine pure_ (i := 0) (N := some 67) (v := ?_) (a' := ?_) #[true, false, false, false, false, false, false, false, false, false, false, false, false, false, false, false, false, false, false, false, false, false] rfl rfl (by kernel_rfl) (fun _ _ _ h => h) (Or.inl ⟨by rfl, ?_⟩) ?_ ?_
  rotate_left
  · intro w'
    go_simp
    with_reducible rfl
  rotate_left
  · simp only [Act.put, List.setIfInBounds_toArray, List.set_cons_zero, List.set_cons_succ, i64_w, i32_w]
    rfl
  refine pure_ (i := 1) (N := some 68) (v := ?_) (a' := ?_) #[true, true, false, false, false, false, false, false, false, false, false, false, false, false, false, false, false, false, false, false, false, false] rfl rfl (by kernel_rfl) (fun _ _ _ h => h) (Or.inl ⟨by rfl, ?_⟩) ?_ ?_
  rotate_left
  · intro w'
    go_simp
    with_reducible rfl
  rotate_left
  · simp only [Act.put, List.setIfInBounds_toArray, List.set_cons_zero, List.set_cons_succ, i64_w, i32_w]
    rfl
  refine pure_ (i := 2) (N := some 69) (v := ?_) (a' := ?_) #[true, true, true, false, false, false, false, false, false, false, false, false, false, false, false, false, false, false, false, false, false, false] rfl rfl (by kernel_rfl) (fun _ _ _ h => h) (Or.inl ⟨by rfl, ?_⟩) ?_ ?_
  rotate_left
  · intro w'
    go_simp
    with_reducible rfl
  rotate_left
  · simp only [Act.put, List.setIfInBounds_toArray, List.set_cons_zero, List.set_cons_succ, i64_w, i32_w]
    rfl
  refine pure_ (i := 3) (N := some 70) (v := ?_) (a' := ?_) #[true, true, true, true, false, false, false, false, false, false, false, false, false, false, false, false, false, false, false, false, false, false] rfl rfl (by kernel_rfl) (fun _ _ _ h => h) (Or.inl ⟨by rfl, ?_⟩) ?_ ?_
  rotate_left
  · intro w'
    go_simp
    with_reducible rfl
  rotate_left
  · simp only [Act.put, List.setIfInBounds_toArray, List.set_cons_zero, List.set_cons_succ, i64_w, i32_w]
    rfl
  refine pure_ (i := 4) (N := some 71) (v := ?_) (a' := ?_) #[true, true, true, true, true, false, false, false, false, false, false, false, false, false, false, false, false, false, false, false, false, false] rfl rfl (by kernel_rfl) (fun _ _ _ h => h) (Or.inl ⟨by rfl, ?_⟩) ?_ ?_
  rotate_left
  · intro w'
    go_simp
    with_reducible rfl
  rotate_left
  · simp only [Act.put, List.setIfInBounds_toArray, List.set_cons_zero, List.set_cons_succ, i64_w, i32_w]
    rfl
  refine pure_ (i := 5) (N := some 72) (v := ?_) (a' := ?_) #[true, true, true, true, true, true, false, false, false, false, false, false, false, false, false, false, false, false, false, false, false, false] rfl rfl (by kernel_rfl) (fun _ _ _ h => h) (Or.inl ⟨by rfl, ?_⟩) ?_ ?_
  rotate_left
  · intro w'
    go_simp
    with_reducible rfl
  rotate_left
  · simp only [Act.put, List.setIfInBounds_toArray, List.set_cons_zero, List.set_cons_succ, i64_w, i32_w]
    rfl
  refine pure_ (i := 6) (N := some 73) (v := ?_) (a' := ?_) #[true, true, true, true, true, true, true, false, false, false, false, false, false, false, false, false, false, false, false, false, false, false] rfl rfl (by kernel_rfl) (fun _ _ _ h => h) (Or.inl ⟨by rfl, ?_⟩) ?_ ?_
  rotate_left
  · intro w'
    go_simp
    with_reducible rfl
  rotate_left
  · simp only [Act.put, List.setIfInBounds_toArray, List.set_cons_zero, List.set_cons_succ, i64_w, i32_w]
    rfl
  refine pure_ (i := 7) (N := some 74) (v := ?_) (a' := ?_) #[true, true, true, true, true, true, true, true, false, false, false, false, false, false, false, false, false, false, false, false, false, false] rfl rfl (by kernel_rfl) (fun _ _ _ h => h) (Or.inl ⟨by rfl, ?_⟩) ?_ ?_
  rotate_left
  · intro w'
    go_simp
    with_reducible rfl
  rotate_left
  · simp only [Act.put, List.setIfInBounds_toArray, List.set_cons_zero, List.set_cons_succ, i64_w, i32_w]
    rfl
  refine pure_ (i := 8) (N := some 75) (v := ?_) (a' := ?_) #[true, true, true, true, true, true, true, true, true, false, false, false, false, false, false, false, false, false, false, false, false, false] rfl rfl (by kernel_rfl) (fun _ _ _ h => h) (Or.inl ⟨by rfl, ?_⟩) ?_ ?_
  rotate_left
  · intro w'
    go_simp
    with_reducible rfl
  rotate_left
  · simp only [Act.put, List.setIfInBounds_toArray, List.set_cons_zero, List.set_cons_succ, i64_w, i32_w]
    rfl
  refine pure_ (i := 9) (N := some 76) (v := ?_) (a' := ?_) #[true, true, true, true, true, true, true, true, true, true, false, false, false, false, false, false, false, false, false, false, false, false] rfl rfl (by kernel_rfl) (fun _ _ _ h => h) (Or.inl ⟨by rfl, ?_⟩) ?_ ?_
  rotate_left
  · intro w'
    go_simp
    with_reducible rfl
  rotate_left
  · simp only [Act.put, List.setIfInBounds_toArray, List.set_cons_zero, List.set_cons_succ, i64_w, i32_w]
    rfl
  refine pure_ (i := 10) (N := some 77) (v := ?_) (a' := ?_) #[true, true, true, true, true, true, true, true, true, true, true, false, false, false, false, false, false, false, false, false, false, false] rfl rfl (by kernel_rfl) (fun _ _ _ h => h) (Or.inl ⟨by rfl, ?_⟩) ?_ ?_
  rotate_left
  · intro w'
    go_simp
    with_reducible rfl
  rotate_left
  · simp only [Act.put, List.setIfInBounds_toArray, List.set_cons_zero, List.set_cons_succ, i64_w, i32_w]
    rfl
  refine pure_ (i := 11) (N := some 78) (v := ?_) (a' := ?_) #[true, true, true, true, true, true, true, true, true, true, true, true, false, false, false, false, false, false, false, false, false, false] rfl rfl (by kernel_rfl) (fun _ _ _ h => h) (Or.inl ⟨by rfl, ?_⟩) ?_ ?_
  rotate_left
  · intro w'
    go_simp
    with_reducible rfl
  rotate_left
  · simp only [Act.put, List.setIfInBounds_toArray, List.set_cons_zero, List.set_cons_succ, i64_w, i32_w]
    rfl
  refine pure_ (i := 12) (N := some 79) (v := ?_) (a' := ?_) #[true, true, true, true, true, true, true, true, true, true, true, true, true, false, false, false, false, false, false, false, false, false] rfl rfl (by kernel_rfl) (fun _ _ _ h => h) (Or.inl ⟨by rfl, ?_⟩) ?_ ?_
  rotate_left
  · intro w'
    go_simp
    with_reducible rfl
  rotate_left
  · simp only [Act.put, List.setIfInBounds_toArray, List.set_cons_zero, List.set_cons_succ, i64_w, i32_w]
    rfl
  refine pure_ (i := 13) (N := some 80) (v := ?_) (a' := ?_) #[true, true, true, true, true, true, true, true, true, true, true, true, true, true, false, false, false, false, false, false, false, false] rfl rfl (by kernel_rfl) (fun _ _ _ h => h) (Or.inl ⟨by rfl, ?_⟩) ?_ ?_
  rotate_left
  · intro w'
    go_simp
    with_reducible rfl
  rotate_left
  · simp only [Act.put, List.setIfInBounds_toArray, List.set_cons_zero, List.set_cons_succ, i64_w, i32_w]
    rfl
  refine pure_ (i := 14) (N := some 81) (v := ?_) (a' := ?_) #[true, true, true, true, true, true, true, true, true, true, true, true, true, true, true, false, false, false, false, false, false, false] rfl rfl (by kernel_rfl) (fun _ _ _ h => h) (Or.inl ⟨by rfl, ?_⟩) ?_ ?_
  rotate_left
  · intro w'
    go_simp
    with_reducible rfl
  rotate_left
  · simp only [Act.put, List.setIfInBounds_toArray, List.set_cons_zero, List.set_cons_succ, i64_w, i32_w]
    rfl
  refine pure_ (i := 15) (N := some 82) (v := ?_) (a' := ?_) #[true, true, true, true, true, true, true, true, true, true, true, true, true, true, true, true, false, false, false, false, false, false] rfl rfl (by kernel_rfl) (fun _ _ _ h => h) (Or.inl ⟨by rfl, ?_⟩) ?_ ?_
  rotate_left
  · intro w'
    go_simp
    with_reducible rfl
  rotate_left
  · simp only [Act.put, List.setIfInBounds_toArray, List.set_cons_zero, List.set_cons_succ, i64_w, i32_w]
    rfl
  refine pure_ (i := 16) (N := some 83) (v := ?_) (a' := ?_) #[true, true, true, true, true, true, true, true, true, true, true, true, true, true, true, true, true, false, false, false, false, false] rfl rfl (by kernel_rfl) (fun _ _ _ h => h) (Or.inl ⟨by rfl, ?_⟩) ?_ ?_
  rotate_left
  · intro w'
    go_simp
    with_reducible rfl
  rotate_left
  · simp only [Act.put, List.setIfInBounds_toArray, List.set_cons_zero, List.set_cons_succ, i64_w, i32_w]
    rfl
  refine pure_ (i := 17) (N := some 84) (v := ?_) (a' := ?_) #[true, true, true, true, true, true, true, true, true, true, true, true, true, true, true, true, true, true, false, false, false, false] rfl rfl (by kernel_rfl) (fun _ _ _ h => h) (Or.inl ⟨by rfl, ?_⟩) ?_ ?_
  rotate_left
  · intro w'
    go_simp
    with_reducible rfl
  rotate_left
  · simp only [Act.put, List.setIfInBounds_toArray, List.set_cons_zero, List.set_cons_succ, i64_w, i32_w]
    rfl
  refine pure_ (i := 18) (N := some 85) (v := ?_) (a' := ?_) #[true, true, true, true, true, true, true, true, true, true, true, true, true, true, true, true, true, true, true, false, false, false] rfl rfl (by kernel_rfl) (fun _ _ _ h => h) (Or.inl ⟨by rfl, ?_⟩) ?_ ?_
  rotate_left
  · intro w'
    go_simp
    with_reducible rfl
  rotate_left
  · simp only [Act.put, List.setIfInBounds_toArray, List.set_cons_zero, List.set_cons_succ, i64_w, i32_w]
    rfl
  refine pure_ (i := 19) (N := some 86) (v := ?_) (a' := ?_) #[true, true, true, true, true, true, true, true, true, true, true, true, true, true, true, true, true, true, true, true, false, false] rfl rfl (by kernel_rfl) (fun _ _ _ h => h) (Or.inl ⟨by rfl, ?_⟩) ?_ ?_
  rotate_left
  · intro w'
    go_simp
    with_reducible rfl
  rotate_left
  · simp only [Act.put, List.setIfInBounds_toArray, List.set_cons_zero, List.set_cons_succ, i64_w, i32_w]
    rfl
  refine pure_ (i := 20) (N := some 87) (v := ?_) (a' := ?_) #[true, true, true, true, true, true, true, true, true, true, true, true, true, true, true, true, true, true, true, true, true, false] rfl rfl (by kernel_rfl) (fun _ _ _ h => h) (Or.inl ⟨by rfl, ?_⟩) ?_ ?_
  rotate_left
  · intro w'
    go_simp
    with_reducible rfl
  rotate_left
  · simp only [Act.put, List.setIfInBounds_toArray, List.set_cons_zero, List.set_cons_succ, i64_w, i32_w]
    rfl
  refine last_ (i := 21) (N := none) #[true, true, true, true, true, true, true, true, true, true, true, true, true, true, true, true, true, true, true, true, true, true] rfl rfl (by kernel_rfl) (by decide) (fun K hK => ?_)
  obtain ⟨p0, p1, p2, pf⟩ := box3 hHeld.2.out
  go_simp
  refine hK.out _ _ ?_
  clear hK K
  refine done_ (by kernel_rfl) ?_
  go_wp2_with fail
  refine bodyPost_ret (results_cell_row rfl _ _ w.heap.size 164 #[.int .i64 (b % 16 * 4096 + b1 % 64 * 64 + b2 % 64), .int .i64 i, .int .i64 3] (0, 0) _ rfl (heap_alloc_new _ _) Try.underlying164 rfl (by kernel_rfl)) rfl ⟨by rw [hR.out]; rfl, ((Below.refl _ _).alloc (Nat.le_refl _) _).drew⟩
set_option maxHeartbeats 4000000 in
set_option maxRecDepth 100000 in
theorem one_d0c (s : ByteArray) (i : Nat) (w : World) (hi : i < s.size) (hs : s.size ≤ 140737488355328) (b : Int) (hb : (s[i].toNat : Int) = b) (lo0 : 0 ≤ b) (hi0 : b < 256) (h1 : 224 ≤ b) (h2 : b ≤ 239) (ea : (b == 224) = false) (eb : (b == 237) = false) (c1 : Q (contB s (i + 1) 128 191 = false)) (r : Int × Nat) (hR : Q (r = (-1, 1))) :
    Calls Try.prog 148 #[.string s, .int .i64 i] w fun e w' => e = .returned (.agg #[.int .i64 r.1, .int .i64 i, .int .i64 (r.2 : Nat)]) ∧ Below w.heap.size w w' := by
  have t1 : decide (b < 128) = false := by simp; omega
  have t2 : decide (194 ≤ b) = true := by simp; omega
  have t3 : decide (b ≤ 223) = false := by simp; omega
  have t4 : decide (224 ≤ b) = true := by simp; omega
  have t5 : decide (b ≤ 239) = true := by simp; omega
  go_enter Try.func148, Try.ntmps148
  go_wp2_with (go_at_call 150; with_reducible refine (cont_ref s (i + 1) 128 191 _ _ (by omega) (by omega)).mono ?_; rw [c1.out]; rintro e w2 ⟨rfl, rfl⟩)
  refine bodyPost_ret (results_cell_row rfl _ _ w.heap.size 164 #[.int .i64 (-1), .int .i64 i, .int .i64 1] (0, 0) _ rfl (heap_alloc_new _ _) Try.underlying164 rfl (by kernel_rfl)) rfl ⟨by rw [hR.out]; rfl, (Below.refl _ _).alloc (Nat.le_refl _) _⟩
set_option maxHeartbeats 4000000 in
set_option maxRecDepth 100000 in
theorem one_d1c (s : ByteArray) (i : Nat) (w : World) (hi : i < s.size) (hs : s.size ≤ 140737488355328) (b : Int) (hb : (s[i].toNat : Int) = b) (lo0 : 0 ≤ b) (hi0 : b < 256) (h1 : 224 ≤ b) (h2 : b ≤ 239) (ea : (b == 224) = false) (eb : (b == 237) = false) (c1 : Q (contB s (i + 1) 128 191 = true)) (c2 : Q (contB s (i + 2) 128 191 = false)) (r : Int × Nat) (hR : Q (r = (-1, 1))) :
    Calls Try.prog 148 #[.string s, .int .i64 i] w fun e w' => e = .returned (.agg #[.int .i64 r.1, .int .i64 i, .int .i64 (r.2 : Nat)]) ∧ Below w.heap.size w w' := by
  have t1 : decide (b < 128) = false := by simp; omega
  have t2 : decide (194 ≤ b) = true := by simp; omega
  have t3 : decide (b ≤ 223) = false := by simp; omega
  have t4 : decide (224 ≤ b) = true := by simp; omega
  have t5 : decide (b ≤ 239) = true := by simp; omega
  go_enter Try.func148, Try.ntmps148
  go_wp2_with (first | (go_at_call 150; with_reducible refine (cont_ref s (i + 1) 128 191 _ _ (by omega) (by omega)).mono ?_; rw [c1.out]; rintro e w2 ⟨rfl, rfl⟩) | (go_at_call 150; with_reducible refine (cont_ref s (i + 2) 128 191 _ _ (by omega) (by omega)).mono ?_; rw [c2.out]; rintro e w2 ⟨rfl, rfl⟩))
  refine bodyPost_ret (results_cell_row rfl _ _ w.heap.size 164 #[.int .i64 (-1), .int .i64 i, .int .i64 1] (0, 0) _ rfl (heap_alloc_new _ _) Try.underlying164 rfl (by kernel_rfl)) rfl ⟨by rw [hR.out]; rfl, (Below.refl _ _).alloc (Nat.le_refl _) _⟩
set_option maxHeartbeats 4000000 in
set_option maxRecDepth 100000 in
theorem one_d2c (s : ByteArray) (i : Nat) (w : World) (hi : i < s.size) (hs : s.size ≤ 140737488355328) (b : Int) (hb : (s[i].toNat : Int) = b) (lo0 : 0 ≤ b) (hi0 : b < 256) (h1 : 224 ≤ b) (h2 : b ≤ 239) (ea : (b == 224) = false) (eb : (b == 237) = false) (c1 : Q (contB s (i + 1) 128 191 = true)) (c2 : Q (contB s (i + 2) 128 191 = true)) (hi1 : i + 1 < s.size) (b1 : Int) (hb1 : ((s[i + 1]'hi1).toNat : Int) = b1) (l1 : 0 ≤ b1) (u1 : b1 < 256) (hi2 : i + 2 < s.size) (b2 : Int) (hb2 : ((s[i + 2]'hi2).toNat : Int) = b2) (l2 : 0 ≤ b2) (u2 : b2 < 256) (r : Int × Nat) (hR : Q (r = (b % 16 * 4096 + b1 % 64 * 64 + b2 % 64, 3))) :
    Calls Try.prog 148 #[.string s, .int .i64 i] w fun e w' => e = .returned (.agg #[.int .i64 r.1, .int .i64 i, .int .i64 (r.2 : Nat)]) ∧ Below w.heap.size w w' := by
  have t1 : decide (b < 128) = false := by simp; omega
  have t2 : decide (194 ≤ b) = true := by simp; omega
  have t3 : decide (b ≤ 223) = false := by simp; omega
  have t4 : decide (224 ≤ b) = true := by simp; omega
  have t5 : decide (b ≤ 239) = true := by simp; omega
  have hs2 : s.size < 4611686018427387904 := by omega
  have Q1 : Q ((0 : Int) ≤ (i : Int) + 1) := ⟨by omega⟩
  have Q2 : Q ((i : Int) + 1 < (s.size : Int)) := ⟨by omega⟩
  have Q3 : Q (((i : Int) + 1).toNat = i + 1) := ⟨by omega⟩
  have Q4 : Q ((0 : Int) ≤ (i : Int) + 2) := ⟨by omega⟩
  have Q5 : Q ((i : Int) + 2 < (s.size : Int)) := ⟨by omega⟩
  have Q6 : Q (((i : Int) + 2).toNat = i + 2) := ⟨by omega⟩
  have V0 : Q (wrap64 ((i : Int) + 1) = (i : Int) + 1) := ⟨IntWalk.wrap64_in _ (by omega)⟩
  have V1 : Q (wrap64 ((i : Int) + 2) = (i : Int) + 2) := ⟨IntWalk.wrap64_in _ (by omega)⟩
  have V2 : Q (wrap64 (b % 16) = b % 16) := ⟨IntWalk.wrap64_in _ (by omega)⟩
  have V3 : Q (wrap64 (b1 % 64) = b1 % 64) := ⟨IntWalk.wrap64_in _ (by omega)⟩
  have V4 : Q (wrap64 (b2 % 64) = b2 % 64) := ⟨IntWalk.wrap64_in _ (by omega)⟩
  have V5 : Q (wrap64 (b % 16 * 4096) = b % 16 * 4096) := ⟨IntWalk.wrap64_in _ (by omega)⟩
  have V6 : Q (wrap64 (b1 % 64 * 64) = b1 % 64 * 64) := ⟨IntWalk.wrap64_in _ (by omega)⟩
  have G0 := Q.mk (heap_alloc_new w (.cells #[.int .i64 0, .int .i64 0, .int .i64 0] 164))
  have BB : Below w.heap.size w (w.alloc (.cells #[.int .i64 0, .int .i64 0, .int .i64 0] 164)) := (Below.refl _ _).alloc (Nat.le_refl _) _
  replace BB := Q.mk BB
  have j1 := u8_and15 b lo0 hi0
  have j2 := u8_and63 b1 l1 u1
  have j3 := u8_and63 b2 l2 u2
  have m1 : 0 ≤ b % 16 := by omega
  have m2 : b % 16 < 16 := by omega
  have m3 : 0 ≤ b1 % 64 := by omega
  have m4 : b1 % 64 < 64 := by omega
  have m5 : 0 ≤ b2 % 64 := by omega
  have m6 : b2 % 64 < 64 := by omega
  have j4 := i64_or 12 (b % 16 * 4096) (b1 % 64 * 64) (by omega) (by omega) (by omega) (by omega) (by omega) (by omega) (by omega)
  have j5 := i64_or 6 (b % 16 * 4096 + b1 % 64 * 64) (b2 % 64) (by omega) (by omega) (by omega) (by omega) (by omega) (by omega) (by omega)
  go_enter Try.func148, Try.ntmps148
  go_wp2_with (first | (go_at_call 150; with_reducible refine (cont_ref s (i + 1) 128 191 _ _ (by omega) (by omega)).mono ?_; rw [c1.out]; rintro e w2 ⟨rfl, rfl⟩) | (go_at_call 150; with_reducible refine (cont_ref s (i + 2) 128 191 _ _ (by omega) (by omega)).mono ?_; rw [c2.out]; rintro e w2 ⟨rfl, rfl⟩))
  have q1 := Q1.out
  have q2 := Q2.out
  have q3 := Q3.out
  have q4 := Q4.out
  have q5 := Q5.out
  have q6 := Q6.out
  have v0 := V0.out
  have v1 := V1.out
  have v2 := V2.out
  have v3 := V3.out
  have v4 := V4.out
  have v5 := V5.out
  have v6 := V6.out
  refine start_ (n := 22) (S := fun w' => Q (Below w.heap.size w w') ∧ Q (w'.heap[w.heap.size]? = some (.cells #[.int .i64 0, .int .i64 0, .int .i64 0] 164 (0, 0)))) (ds := [21]) #[false, false, false, false, false, false, false, false, false, false, false, false, false, false, false, false, false, false, false, false, false, false] (by kernel_rfl) rfl rfl ⟨⟨BB.out.drew⟩, ⟨G0.out⟩⟩ (fun hHeld => ?_)
  refine pure_ (i := 0) (N := some 67) (v := ?_) (a' := ?_) #[true, false, false, false, false, false, false, false, false, false, false, false, false, false, false, false, false, false, false, false, false, false] rfl rfl (by kernel_rfl) (fun _ _ _ h => h) (Or.inl ⟨by rfl, ?_⟩) ?_ ?_
  rotate_left
  · intro w'
    go_simp
    with_reducible rfl
  rotate_left
  · simp only [Act.put, List.setIfInBounds_toArray, List.set_cons_zero, List.set_cons_succ, i64_w, i32_w]
    rfl
  refine pure_ (i := 1) (N := some 68) (v := ?_) (a' := ?_) #[true, true, false, false, false, false, false, false, false, false, false, false, false, false, false, false, false, false, false, false, false, false] rfl rfl (by kernel_rfl) (fun _ _ _ h => h) (Or.inl ⟨by rfl, ?_⟩) ?_ ?_
  rotate_left
  · intro w'
    go_simp
    with_reducible rfl
  rotate_left
  · simp only [Act.put, List.setIfInBounds_toArray, List.set_cons_zero, List.set_cons_succ, i64_w, i32_w]
    rfl
  refine pure_ (i := 2) (N := some 69) (v := ?_) (a' := ?_) #[true, true, true, false, false, false, false, false, false, false, false, false, false, false, false, false, false, false, false, false, false, false] rfl rfl (by kernel_rfl) (fun _ _ _ h => h) (Or.inl ⟨by rfl, ?_⟩) ?_ ?_
  rotate_left
  · intro w'
    go_simp
    with_reducible rfl
  rotate_left
  · simp only [Act.put, List.setIfInBounds_toArray, List.set_cons_zero, List.set_cons_succ, i64_w, i32_w]
    rfl
  refine pure_ (i := 3) (N := some 70) (v := ?_) (a' := ?_) #[true, true, true, true, false, false, false, false, false, false, false, false, false, false, false, false, false, false, false, false, false, false] rfl rfl (by kernel_rfl) (fun _ _ _ h => h) (Or.inl ⟨by rfl, ?_⟩) ?_ ?_
  rotate_left
  · intro w'
    go_simp
    with_reducible rfl
  rotate_left
  · simp only [Act.put, List.setIfInBounds_toArray, List.set_cons_zero, List.set_cons_succ, i64_w, i32_w]
    rfl
  refine pure_ (i := 4) (N := some 71) (v := ?_) (a' := ?_) #[true, true, true, true, true, false, false, false, false, false, false, false, false, false, false, false, false, false, false, false, false, false] rfl rfl (by kernel_rfl) (fun _ _ _ h => h) (Or.inl ⟨by rfl, ?_⟩) ?_ ?_
  rotate_left
  · intro w'
    go_simp
    with_reducible rfl
  rotate_left
  · simp only [Act.put, List.setIfInBounds_toArray, List.set_cons_zero, List.set_cons_succ, i64_w, i32_w]
    rfl
  refine pure_ (i := 5) (N := some 72) (v := ?_) (a' := ?_) #[true, true, true, true, true, true, false, false, false, false, false, false, false, false, false, false, false, false, false, false, false, false] rfl rfl (by kernel_rfl) (fun _ _ _ h => h) (Or.inl ⟨by rfl, ?_⟩) ?_ ?_
  rotate_left
  · intro w'
    go_simp
    with_reducible rfl
  rotate_left
  · simp only [Act.put, List.setIfInBounds_toArray, List.set_cons_zero, List.set_cons_succ, i64_w, i32_w]
    rfl
  refine pure_ (i := 6) (N := some 73) (v := ?_) (a' := ?_) #[true, true, true, true, true, true, true, false, false, false, false, false, false, false, false, false, false, false, false, false, false, false] rfl rfl (by kernel_rfl) (fun _ _ _ h => h) (Or.inl ⟨by rfl, ?_⟩) ?_ ?_
  rotate_left
  · intro w'
    go_simp
    with_reducible rfl
  rotate_left
  · simp only [Act.put, List.setIfInBounds_toArray, List.set_cons_zero, List.set_cons_succ, i64_w, i32_w]
    rfl
  refine pure_ (i := 7) (N := some 74) (v := ?_) (a' := ?_) #[true, true, true, true, true, true, true, true, false, false, false, false, false, false, false, false, false, false, false, false, false, false] rfl rfl (by kernel_rfl) (fun _ _ _ h => h) (Or.inl ⟨by rfl, ?_⟩) ?_ ?_
  rotate_left
  · intro w'
    go_simp
    with_reducible rfl
  rotate_left
  · simp only [Act.put, List.setIfInBounds_toArray, List.set_cons_zero, List.set_cons_succ, i64_w, i32_w]
    rfl
  refine pure_ (i := 8) (N := some 75) (v := ?_) (a' := ?_) #[true, true, true, true, true, true, true, true, true, false, false, false, false, false, false, false, false, false, false, false, false, false] rfl rfl (by kernel_rfl) (fun _ _ _ h => h) (Or.inl ⟨by rfl, ?_⟩) ?_ ?_
  rotate_left
  · intro w'
    go_simp
    with_reducible rfl
  rotate_left
  · simp only [Act.put, List.setIfInBounds_toArray, List.set_cons_zero, List.set_cons_succ, i64_w, i32_w]
    rfl
  refine pure_ (i := 9) (N := some 76) (v := ?_) (a' := ?_) #[true, true, true, true, true, true, true, true, true, true, false, false, false, false, false, false, false, false, false, false, false, false] rfl rfl (by kernel_rfl) (fun _ _ _ h => h) (Or.inl ⟨by rfl, ?_⟩) ?_ ?_
  rotate_left
  · intro w'
    go_simp
    with_reducible rfl
  rotate_left
  · simp only [Act.put, List.setIfInBounds_toArray, List.set_cons_zero, List.set_cons_succ, i64_w, i32_w]
    rfl
  refine pure_ (i := 10) (N := some 77) (v := ?_) (a' := ?_) #[true, true, true, true, true, true, true, true, true, true, true, false, false, false, false, false, false, false, false, false, false, false] rfl rfl (by kernel_rfl) (fun _ _ _ h => h) (Or.inl ⟨by rfl, ?_⟩) ?_ ?_
  rotate_left
  · intro w'
    go_simp
    with_reducible rfl
  rotate_left
  · simp only [Act.put, List.setIfInBounds_toArray, List.set_cons_zero, List.set_cons_succ, i64_w, i32_w]
    rfl
  refine pure_ (i := 11) (N := some 78) (v := ?_) (a' := ?_) #[true, true, true, true, true, true, true, true, true, true, true, true, false, false, false, false, false, false, false, false, false, false] rfl rfl (by kernel_rfl) (fun _ _ _ h => h) (Or.inl ⟨by rfl, ?_⟩) ?_ ?_
  rotate_left
  · intro w'
    go_simp
    with_reducible rfl
  rotate_left
  · simp only [Act.put, List.setIfInBounds_toArray, List.set_cons_zero, List.set_cons_succ, i64_w, i32_w]
    rfl
  refine pure_ (i := 12) (N := some 79) (v := ?_) (a' := ?_) #[true, true, true, true, true, true, true, true, true, true, true, true, true, false, false, false, false, false, false, false, false, false] rfl rfl (by kernel_rfl) (fun _ _ _ h => h) (Or.inl ⟨by rfl, ?_⟩) ?_ ?_
  rotate_left
  · intro w'
    go_simp
    with_reducible rfl
  rotate_left
  · simp only [Act.put, List.setIfInBounds_toArray, List.set_cons_zero, List.set_cons_succ, i64_w, i32_w]
    rfl
  refine pure_ (i := 13) (N := some 80) (v := ?_) (a' := ?_) #[true, true, true, true, true, true, true, true, true, true, true, true, true, true, false, false, false, false, false, false, false, false] rfl rfl (by kernel_rfl) (fun _ _ _ h => h) (Or.inl ⟨by rfl, ?_⟩) ?_ ?_
  rotate_left
  · intro w'
    go_simp
    with_reducible rfl
  rotate_left
  · simp only [Act.put, List.setIfInBounds_toArray, List.set_cons_zero, List.set_cons_succ, i64_w, i32_w]
    rfl
  refine pure_ (i := 14) (N := some 81) (v := ?_) (a' := ?_) #[true, true, true, true, true, true, true, true, true, true, true, true, true, true, true, false, false, false, false, false, false, false] rfl rfl (by kernel_rfl) (fun _ _ _ h => h) (Or.inl ⟨by rfl, ?_⟩) ?_ ?_
  rotate_left
  · intro w'
    go_simp
    with_reducible rfl
  rotate_left
  · simp only [Act.put, List.setIfInBounds_toArray, List.set_cons_zero, List.set_cons_succ, i64_w, i32_w]
    rfl
  refine pure_ (i := 15) (N := some 82) (v := ?_) (a' := ?_) #[true, true, true, true, true, true, true, true, true, true, true, true, true, true, true, true, false, false, false, false, false, false] rfl rfl (by kernel_rfl) (fun _ _ _ h => h) (Or.inl ⟨by rfl, ?_⟩) ?_ ?_
  rotate_left
  · intro w'
    go_simp
    with_reducible rfl
  rotate_left
  · simp only [Act.put, List.setIfInBounds_toArray, List.set_cons_zero, List.set_cons_succ, i64_w, i32_w]
    rfl
  refine pure_ (i := 16) (N := some 83) (v := ?_) (a' := ?_) #[true, true, true, true, true, true, true, true, true, true, true, true, true, true, true, true, true, false, false, false, false, false] rfl rfl (by kernel_rfl) (fun _ _ _ h => h) (Or.inl ⟨by rfl, ?_⟩) ?_ ?_
  rotate_left
  · intro w'
    go_simp
    with_reducible rfl
  rotate_left
  · simp only [Act.put, List.setIfInBounds_toArray, List.set_cons_zero, List.set_cons_succ, i64_w, i32_w]
    rfl
  refine pure_ (i := 17) (N := some 84) (v := ?_) (a' := ?_) #[true, true, true, true, true, true, true, true, true, true, true, true, true, true, true, true, true, true, false, false, false, false] rfl rfl (by kernel_rfl) (fun _ _ _ h => h) (Or.inl ⟨by rfl, ?_⟩) ?_ ?_
  rotate_left
  · intro w'
    go_simp
    with_reducible rfl
  rotate_left
  · simp only [Act.put, List.setIfInBounds_toArray, List.set_cons_zero, List.set_cons_succ, i64_w, i32_w]
    rfl
  refine pure_ (i := 18) (N := some 85) (v := ?_) (a' := ?_) #[true, true, true, true, true, true, true, true, true, true, true, true, true, true, true, true, true, true, true, false, false, false] rfl rfl (by kernel_rfl) (fun _ _ _ h => h) (Or.inl ⟨by rfl, ?_⟩) ?_ ?_
  rotate_left
  · intro w'
    go_simp
    with_reducible rfl
  rotate_left
  · simp only [Act.put, List.setIfInBounds_toArray, List.set_cons_zero, List.set_cons_succ, i64_w, i32_w]
    rfl
  refine pure_ (i := 19) (N := some 86) (v := ?_) (a' := ?_) #[true, true, true, true, true, true, true, true, true, true, true, true, true, true, true, true, true, true, true, true, false, false] rfl rfl (by kernel_rfl) (fun _ _ _ h => h) (Or.inl ⟨by rfl, ?_⟩) ?_ ?_
  rotate_left
  · intro w'
    go_simp
    with_reducible rfl
  rotate_left
  · simp only [Act.put, List.setIfInBounds_toArray, List.set_cons_zero, List.set_cons_succ, i64_w, i32_w]
    rfl
  refine pure_ (i := 20) (N := some 87) (v := ?_) (a' := ?_) #[true, true, true, true, true, true, true, true, true, true, true, true, true, true, true, true, true, true, true, true, true, false] rfl rfl (by kernel_rfl) (fun _ _ _ h => h) (Or.inl ⟨by rfl, ?_⟩) ?_ ?_
  rotate_left
  · intro w'
    go_simp
    with_reducible rfl
  rotate_left
  · simp only [Act.put, List.setIfInBounds_toArray, List.set_cons_zero, List.set_cons_succ, i64_w, i32_w]
    rfl
  refine last_ (i := 21) (N := none) #[true, true, true, true, true, true, true, true, true, true, true, true, true, true, true, true, true, true, true, true, true, true] rfl rfl (by kernel_rfl) (by decide) (fun K hK => ?_)
  obtain ⟨p0, p1, p2, pf⟩ := box3 hHeld.2.out
  go_simp
  refine hK.out _ _ ?_
  clear hK K
  refine done_ (by kernel_rfl) ?_
  go_wp2_with fail
  refine bodyPost_ret (results_cell_row rfl _ _ w.heap.size 164 #[.int .i64 (b % 16 * 4096 + b1 % 64 * 64 + b2 % 64), .int .i64 i, .int .i64 3] (0, 0) _ rfl (heap_alloc_new _ _) Try.underlying164 rfl (by kernel_rfl)) rfl ⟨by rw [hR.out]; rfl, ((Below.refl _ _).alloc (Nat.le_refl _) _).drew⟩
set_option maxHeartbeats 4000000 in
set_option maxRecDepth 100000 in
theorem one_e0a (s : ByteArray) (i : Nat) (w : World) (hi : i < s.size) (hs : s.size ≤ 140737488355328) (b : Int) (hb : (s[i].toNat : Int) = b) (lo0 : 0 ≤ b) (hi0 : b < 256) (h1 : 240 ≤ b) (h2 : b ≤ 244) (ea : (b == 240) = true) (eb : (b == 244) = false) (c1 : Q (contB s (i + 1) 144 191 = false)) (r : Int × Nat) (hR : Q (r = (-1, 1))) :
    Calls Try.prog 148 #[.string s, .int .i64 i] w fun e w' => e = .returned (.agg #[.int .i64 r.1, .int .i64 i, .int .i64 (r.2 : Nat)]) ∧ Below w.heap.size w w' := by
  have t1 : decide (b < 128) = false := by simp; omega
  have t2 : decide (194 ≤ b) = true := by simp; omega
  have t3 : decide (b ≤ 223) = false := by simp; omega
  have t4 : decide (224 ≤ b) = true := by simp; omega
  have t5 : decide (b ≤ 239) = false := by simp; omega
  have t6 : decide (240 ≤ b) = true := by simp; omega
  have t7 : decide (b ≤ 244) = true := by simp; omega
  go_enter Try.func148, Try.ntmps148
  go_wp2_with (go_at_call 150; with_reducible refine (cont_ref s (i + 1) 144 191 _ _ (by omega) (by omega)).mono ?_; rw [c1.out]; rintro e w2 ⟨rfl, rfl⟩)
  refine bodyPost_ret (results_cell_row rfl _ _ w.heap.size 164 #[.int .i64 (-1), .int .i64 i, .int .i64 1] (0, 0) _ rfl (heap_alloc_new _ _) Try.underlying164 rfl (by kernel_rfl)) rfl ⟨by rw [hR.out]; rfl, (Below.refl _ _).alloc (Nat.le_refl _) _⟩
set_option maxHeartbeats 4000000 in
set_option maxRecDepth 100000 in
theorem one_e1a (s : ByteArray) (i : Nat) (w : World) (hi : i < s.size) (hs : s.size ≤ 140737488355328) (b : Int) (hb : (s[i].toNat : Int) = b) (lo0 : 0 ≤ b) (hi0 : b < 256) (h1 : 240 ≤ b) (h2 : b ≤ 244) (ea : (b == 240) = true) (eb : (b == 244) = false) (c1 : Q (contB s (i + 1) 144 191 = true)) (c2 : Q (contB s (i + 2) 128 191 = false)) (r : Int × Nat) (hR : Q (r = (-1, 1))) :
    Calls Try.prog 148 #[.string s, .int .i64 i] w fun e w' => e = .returned (.agg #[.int .i64 r.1, .int .i64 i, .int .i64 (r.2 : Nat)]) ∧ Below w.heap.size w w' := by
  have t1 : decide (b < 128) = false := by simp; omega
  have t2 : decide (194 ≤ b) = true := by simp; omega
  have t3 : decide (b ≤ 223) = false := by simp; omega
  have t4 : decide (224 ≤ b) = true := by simp; omega
  have t5 : decide (b ≤ 239) = false := by simp; omega
  have t6 : decide (240 ≤ b) = true := by simp; omega
  have t7 : decide (b ≤ 244) = true := by simp; omega
  go_enter Try.func148, Try.ntmps148
  go_wp2_with (first | (go_at_call 150; with_reducible refine (cont_ref s (i + 1) 144 191 _ _ (by omega) (by omega)).mono ?_; rw [c1.out]; rintro e w2 ⟨rfl, rfl⟩) | (go_at_call 150; with_reducible refine (cont_ref s (i + 2) 128 191 _ _ (by omega) (by omega)).mono ?_; rw [c2.out]; rintro e w2 ⟨rfl, rfl⟩))
  refine bodyPost_ret (results_cell_row rfl _ _ w.heap.size 164 #[.int .i64 (-1), .int .i64 i, .int .i64 1] (0, 0) _ rfl (heap_alloc_new _ _) Try.underlying164 rfl (by kernel_rfl)) rfl ⟨by rw [hR.out]; rfl, (Below.refl _ _).alloc (Nat.le_refl _) _⟩
set_option maxHeartbeats 4000000 in
set_option maxRecDepth 100000 in
theorem one_e2a (s : ByteArray) (i : Nat) (w : World) (hi : i < s.size) (hs : s.size ≤ 140737488355328) (b : Int) (hb : (s[i].toNat : Int) = b) (lo0 : 0 ≤ b) (hi0 : b < 256) (h1 : 240 ≤ b) (h2 : b ≤ 244) (ea : (b == 240) = true) (eb : (b == 244) = false) (c1 : Q (contB s (i + 1) 144 191 = true)) (c2 : Q (contB s (i + 2) 128 191 = true)) (c3 : Q (contB s (i + 3) 128 191 = false)) (r : Int × Nat) (hR : Q (r = (-1, 1))) :
    Calls Try.prog 148 #[.string s, .int .i64 i] w fun e w' => e = .returned (.agg #[.int .i64 r.1, .int .i64 i, .int .i64 (r.2 : Nat)]) ∧ Below w.heap.size w w' := by
  have t1 : decide (b < 128) = false := by simp; omega
  have t2 : decide (194 ≤ b) = true := by simp; omega
  have t3 : decide (b ≤ 223) = false := by simp; omega
  have t4 : decide (224 ≤ b) = true := by simp; omega
  have t5 : decide (b ≤ 239) = false := by simp; omega
  have t6 : decide (240 ≤ b) = true := by simp; omega
  have t7 : decide (b ≤ 244) = true := by simp; omega
  go_enter Try.func148, Try.ntmps148
  go_wp2_with (first | (go_at_call 150; with_reducible refine (cont_ref s (i + 1) 144 191 _ _ (by omega) (by omega)).mono ?_; rw [c1.out]; rintro e w2 ⟨rfl, rfl⟩) | (go_at_call 150; with_reducible refine (cont_ref s (i + 2) 128 191 _ _ (by omega) (by omega)).mono ?_; rw [c2.out]; rintro e w2 ⟨rfl, rfl⟩) | (go_at_call 150; with_reducible refine (cont_ref s (i + 3) 128 191 _ _ (by omega) (by omega)).mono ?_; rw [c3.out]; rintro e w2 ⟨rfl, rfl⟩))
  refine bodyPost_ret (results_cell_row rfl _ _ w.heap.size 164 #[.int .i64 (-1), .int .i64 i, .int .i64 1] (0, 0) _ rfl (heap_alloc_new _ _) Try.underlying164 rfl (by kernel_rfl)) rfl ⟨by rw [hR.out]; rfl, (Below.refl _ _).alloc (Nat.le_refl _) _⟩
set_option maxHeartbeats 4000000 in
set_option maxRecDepth 100000 in
theorem one_e3a (s : ByteArray) (i : Nat) (w : World) (hi : i < s.size) (hs : s.size ≤ 140737488355328) (b : Int) (hb : (s[i].toNat : Int) = b) (lo0 : 0 ≤ b) (hi0 : b < 256) (h1 : 240 ≤ b) (h2 : b ≤ 244) (ea : (b == 240) = true) (eb : (b == 244) = false) (c1 : Q (contB s (i + 1) 144 191 = true)) (c2 : Q (contB s (i + 2) 128 191 = true)) (c3 : Q (contB s (i + 3) 128 191 = true)) (hi1 : i + 1 < s.size) (b1 : Int) (hb1 : ((s[i + 1]'hi1).toNat : Int) = b1) (l1 : 0 ≤ b1) (u1 : b1 < 256) (hi2 : i + 2 < s.size) (b2 : Int) (hb2 : ((s[i + 2]'hi2).toNat : Int) = b2) (l2 : 0 ≤ b2) (u2 : b2 < 256) (hi3 : i + 3 < s.size) (b3 : Int) (hb3 : ((s[i + 3]'hi3).toNat : Int) = b3) (l3 : 0 ≤ b3) (u3 : b3 < 256) (r : Int × Nat) (hR : Q (r = (b % 8 * 262144 + b1 % 64 * 4096 + b2 % 64 * 64 + b3 % 64, 4))) :
    Calls Try.prog 148 #[.string s, .int .i64 i] w fun e w' => e = .returned (.agg #[.int .i64 r.1, .int .i64 i, .int .i64 (r.2 : Nat)]) ∧ Below w.heap.size w w' := by
  have t1 : decide (b < 128) = false := by simp; omega
  have t2 : decide (194 ≤ b) = true := by simp; omega
  have t3 : decide (b ≤ 223) = false := by simp; omega
  have t4 : decide (224 ≤ b) = true := by simp; omega
  have t5 : decide (b ≤ 239) = false := by simp; omega
  have t6 : decide (240 ≤ b) = true := by simp; omega
  have t7 : decide (b ≤ 244) = true := by simp; omega
  have hs2 : s.size < 4611686018427387904 := by omega
  have Q10 : Q ((0 : Int) ≤ (i : Int) + 1) := ⟨by omega⟩
  have Q11 : Q ((i : Int) + 1 < (s.size : Int)) := ⟨by omega⟩
  have Q12 : Q (((i : Int) + 1).toNat = i + 1) := ⟨by omega⟩
  have Q20 : Q ((0 : Int) ≤ (i : Int) + 2) := ⟨by omega⟩
  have Q21 : Q ((i : Int) + 2 < (s.size : Int)) := ⟨by omega⟩
  have Q22 : Q (((i : Int) + 2).toNat = i + 2) := ⟨by omega⟩
  have Q30 : Q ((0 : Int) ≤ (i : Int) + 3) := ⟨by omega⟩
  have Q31 : Q ((i : Int) + 3 < (s.size : Int)) := ⟨by omega⟩
  have Q32 : Q (((i : Int) + 3).toNat = i + 3) := ⟨by omega⟩
  have V0 : Q (wrap64 ((i : Int) + 1) = (i : Int) + 1) := ⟨IntWalk.wrap64_in _ (by omega)⟩
  have V1 : Q (wrap64 ((i : Int) + 2) = (i : Int) + 2) := ⟨IntWalk.wrap64_in _ (by omega)⟩
  have V2 : Q (wrap64 ((i : Int) + 3) = (i : Int) + 3) := ⟨IntWalk.wrap64_in _ (by omega)⟩
  have V3 : Q (wrap64 (b % 8) = b % 8) := ⟨IntWalk.wrap64_in _ (by omega)⟩
  have V4 : Q (wrap64 (b1 % 64) = b1 % 64) := ⟨IntWalk.wrap64_in _ (by omega)⟩
  have V5 : Q (wrap64 (b2 % 64) = b2 % 64) := ⟨IntWalk.wrap64_in _ (by omega)⟩
  have V6 : Q (wrap64 (b3 % 64) = b3 % 64) := ⟨IntWalk.wrap64_in _ (by omega)⟩
  have V7 : Q (wrap64 (b % 8 * 262144) = b % 8 * 262144) := ⟨IntWalk.wrap64_in _ (by omega)⟩
  have V8 : Q (wrap64 (b1 % 64 * 4096) = b1 % 64 * 4096) := ⟨IntWalk.wrap64_in _ (by omega)⟩
  have V9 : Q (wrap64 (b2 % 64 * 64) = b2 % 64 * 64) := ⟨IntWalk.wrap64_in _ (by omega)⟩
  have G0 := Q.mk (heap_alloc_new w (.cells #[.int .i64 0, .int .i64 0, .int .i64 0] 164))
  have BB : Below w.heap.size w (w.alloc (.cells #[.int .i64 0, .int .i64 0, .int .i64 0] 164)) := (Below.refl _ _).alloc (Nat.le_refl _) _
  replace BB := Q.mk BB
  have j1 := u8_and7 b lo0 hi0
  have j2 := u8_and63 b1 l1 u1
  have j3 := u8_and63 b2 l2 u2
  have j4 := u8_and63 b3 l3 u3
  have m1 : 0 ≤ b % 8 := by omega
  have m2 : b % 8 < 8 := by omega
  have m3 : 0 ≤ b1 % 64 := by omega
  have m4 : b1 % 64 < 64 := by omega
  have m5 : 0 ≤ b2 % 64 := by omega
  have m6 : b2 % 64 < 64 := by omega
  have m7 : 0 ≤ b3 % 64 := by omega
  have m8 : b3 % 64 < 64 := by omega
  have j5 := i64_or 18 (b % 8 * 262144) (b1 % 64 * 4096) (by omega) (by omega) (by omega) (by omega) (by omega) (by omega) (by omega)
  have j6 := i64_or 12 (b % 8 * 262144 + b1 % 64 * 4096) (b2 % 64 * 64) (by omega) (by omega) (by omega) (by omega) (by omega) (by omega) (by omega)
  have j7 := i64_or 6 (b % 8 * 262144 + b1 % 64 * 4096 + b2 % 64 * 64) (b3 % 64) (by omega) (by omega) (by omega) (by omega) (by omega) (by omega) (by omega)
  go_enter Try.func148, Try.ntmps148
  go_wp2_with (first | (go_at_call 150; with_reducible refine (cont_ref s (i + 1) 144 191 _ _ (by omega) (by omega)).mono ?_; rw [c1.out]; rintro e w2 ⟨rfl, rfl⟩) | (go_at_call 150; with_reducible refine (cont_ref s (i + 2) 128 191 _ _ (by omega) (by omega)).mono ?_; rw [c2.out]; rintro e w2 ⟨rfl, rfl⟩) | (go_at_call 150; with_reducible refine (cont_ref s (i + 3) 128 191 _ _ (by omega) (by omega)).mono ?_; rw [c3.out]; rintro e w2 ⟨rfl, rfl⟩))
  have q10 := Q10.out
  have q11 := Q11.out
  have q12 := Q12.out
  have q20 := Q20.out
  have q21 := Q21.out
  have q22 := Q22.out
  have q30 := Q30.out
  have q31 := Q31.out
  have q32 := Q32.out
  have v0 := V0.out
  have v1 := V1.out
  have v2 := V2.out
  have v3 := V3.out
  have v4 := V4.out
  have v5 := V5.out
  have v6 := V6.out
  have v7 := V7.out
  have v8 := V8.out
  have v9 := V9.out
  refine start_ (n := 30) (S := fun w' => Q (Below w.heap.size w w') ∧ Q (w'.heap[w.heap.size]? = some (.cells #[.int .i64 0, .int .i64 0, .int .i64 0] 164 (0, 0)))) (ds := [29]) #[false, false, false, false, false, false, false, false, false, false, false, false, false, false, false, false, false, false, false, false, false, false, false, false, false, false, false, false, false, false] (by kernel_rfl) rfl rfl ⟨⟨BB.out.drew⟩, ⟨G0.out⟩⟩ (fun hHeld => ?_)
  refine pure_ (i := 0) (N := some 117) (v := ?_) (a' := ?_) #[true, false, false, false, false, false, false, false, false, false, false, false, false, false, false, false, false, false, false, false, false, false, false, false, false, false, false, false, false, false] rfl rfl (by kernel_rfl) (fun _ _ _ h => h) (Or.inl ⟨by rfl, ?_⟩) ?_ ?_
  rotate_left
  · intro w'
    go_simp
    with_reducible rfl
  rotate_left
  · simp only [Act.put, List.setIfInBounds_toArray, List.set_cons_zero, List.set_cons_succ, i64_w, i32_w]
    rfl
  refine pure_ (i := 1) (N := some 118) (v := ?_) (a' := ?_) #[true, true, false, false, false, false, false, false, false, false, false, false, false, false, false, false, false, false, false, false, false, false, false, false, false, false, false, false, false, false] rfl rfl (by kernel_rfl) (fun _ _ _ h => h) (Or.inl ⟨by rfl, ?_⟩) ?_ ?_
  rotate_left
  · intro w'
    go_simp
    with_reducible rfl
  rotate_left
  · simp only [Act.put, List.setIfInBounds_toArray, List.set_cons_zero, List.set_cons_succ, i64_w, i32_w]
    rfl
  refine pure_ (i := 2) (N := some 119) (v := ?_) (a' := ?_) #[true, true, true, false, false, false, false, false, false, false, false, false, false, false, false, false, false, false, false, false, false, false, false, false, false, false, false, false, false, false] rfl rfl (by kernel_rfl) (fun _ _ _ h => h) (Or.inl ⟨by rfl, ?_⟩) ?_ ?_
  rotate_left
  · intro w'
    go_simp
    with_reducible rfl
  rotate_left
  · simp only [Act.put, List.setIfInBounds_toArray, List.set_cons_zero, List.set_cons_succ, i64_w, i32_w]
    rfl
  refine pure_ (i := 3) (N := some 120) (v := ?_) (a' := ?_) #[true, true, true, true, false, false, false, false, false, false, false, false, false, false, false, false, false, false, false, false, false, false, false, false, false, false, false, false, false, false] rfl rfl (by kernel_rfl) (fun _ _ _ h => h) (Or.inl ⟨by rfl, ?_⟩) ?_ ?_
  rotate_left
  · intro w'
    go_simp
    with_reducible rfl
  rotate_left
  · simp only [Act.put, List.setIfInBounds_toArray, List.set_cons_zero, List.set_cons_succ, i64_w, i32_w]
    rfl
  refine pure_ (i := 4) (N := some 121) (v := ?_) (a' := ?_) #[true, true, true, true, true, false, false, false, false, false, false, false, false, false, false, false, false, false, false, false, false, false, false, false, false, false, false, false, false, false] rfl rfl (by kernel_rfl) (fun _ _ _ h => h) (Or.inl ⟨by rfl, ?_⟩) ?_ ?_
  rotate_left
  · intro w'
    go_simp
    with_reducible rfl
  rotate_left
  · simp only [Act.put, List.setIfInBounds_toArray, List.set_cons_zero, List.set_cons_succ, i64_w, i32_w]
    rfl
  refine pure_ (i := 5) (N := some 122) (v := ?_) (a' := ?_) #[true, true, true, true, true, true, false, false, false, false, false, false, false, false, false, false, false, false, false, false, false, false, false, false, false, false, false, false, false, false] rfl rfl (by kernel_rfl) (fun _ _ _ h => h) (Or.inl ⟨by rfl, ?_⟩) ?_ ?_
  rotate_left
  · intro w'
    go_simp
    with_reducible rfl
  rotate_left
  · simp only [Act.put, List.setIfInBounds_toArray, List.set_cons_zero, List.set_cons_succ, i64_w, i32_w]
    rfl
  refine pure_ (i := 6) (N := some 123) (v := ?_) (a' := ?_) #[true, true, true, true, true, true, true, false, false, false, false, false, false, false, false, false, false, false, false, false, false, false, false, false, false, false, false, false, false, false] rfl rfl (by kernel_rfl) (fun _ _ _ h => h) (Or.inl ⟨by rfl, ?_⟩) ?_ ?_
  rotate_left
  · intro w'
    go_simp
    with_reducible rfl
  rotate_left
  · simp only [Act.put, List.setIfInBounds_toArray, List.set_cons_zero, List.set_cons_succ, i64_w, i32_w]
    rfl
  refine pure_ (i := 7) (N := some 124) (v := ?_) (a' := ?_) #[true, true, true, true, true, true, true, true, false, false, false, false, false, false, false, false, false, false, false, false, false, false, false, false, false, false, false, false, false, false] rfl rfl (by kernel_rfl) (fun _ _ _ h => h) (Or.inl ⟨by rfl, ?_⟩) ?_ ?_
  rotate_left
  · intro w'
    go_simp
    with_reducible rfl
  rotate_left
  · simp only [Act.put, List.setIfInBounds_toArray, List.set_cons_zero, List.set_cons_succ, i64_w, i32_w]
    rfl
  refine pure_ (i := 8) (N := some 125) (v := ?_) (a' := ?_) #[true, true, true, true, true, true, true, true, true, false, false, false, false, false, false, false, false, false, false, false, false, false, false, false, false, false, false, false, false, false] rfl rfl (by kernel_rfl) (fun _ _ _ h => h) (Or.inl ⟨by rfl, ?_⟩) ?_ ?_
  rotate_left
  · intro w'
    go_simp
    with_reducible rfl
  rotate_left
  · simp only [Act.put, List.setIfInBounds_toArray, List.set_cons_zero, List.set_cons_succ, i64_w, i32_w]
    rfl
  refine pure_ (i := 9) (N := some 126) (v := ?_) (a' := ?_) #[true, true, true, true, true, true, true, true, true, true, false, false, false, false, false, false, false, false, false, false, false, false, false, false, false, false, false, false, false, false] rfl rfl (by kernel_rfl) (fun _ _ _ h => h) (Or.inl ⟨by rfl, ?_⟩) ?_ ?_
  rotate_left
  · intro w'
    go_simp
    with_reducible rfl
  rotate_left
  · simp only [Act.put, List.setIfInBounds_toArray, List.set_cons_zero, List.set_cons_succ, i64_w, i32_w]
    rfl
  refine pure_ (i := 10) (N := some 127) (v := ?_) (a' := ?_) #[true, true, true, true, true, true, true, true, true, true, true, false, false, false, false, false, false, false, false, false, false, false, false, false, false, false, false, false, false, false] rfl rfl (by kernel_rfl) (fun _ _ _ h => h) (Or.inl ⟨by rfl, ?_⟩) ?_ ?_
  rotate_left
  · intro w'
    go_simp
    with_reducible rfl
  rotate_left
  · simp only [Act.put, List.setIfInBounds_toArray, List.set_cons_zero, List.set_cons_succ, i64_w, i32_w]
    rfl
  refine pure_ (i := 11) (N := some 128) (v := ?_) (a' := ?_) #[true, true, true, true, true, true, true, true, true, true, true, true, false, false, false, false, false, false, false, false, false, false, false, false, false, false, false, false, false, false] rfl rfl (by kernel_rfl) (fun _ _ _ h => h) (Or.inl ⟨by rfl, ?_⟩) ?_ ?_
  rotate_left
  · intro w'
    go_simp
    with_reducible rfl
  rotate_left
  · simp only [Act.put, List.setIfInBounds_toArray, List.set_cons_zero, List.set_cons_succ, i64_w, i32_w]
    rfl
  refine pure_ (i := 12) (N := some 129) (v := ?_) (a' := ?_) #[true, true, true, true, true, true, true, true, true, true, true, true, true, false, false, false, false, false, false, false, false, false, false, false, false, false, false, false, false, false] rfl rfl (by kernel_rfl) (fun _ _ _ h => h) (Or.inl ⟨by rfl, ?_⟩) ?_ ?_
  rotate_left
  · intro w'
    go_simp
    with_reducible rfl
  rotate_left
  · simp only [Act.put, List.setIfInBounds_toArray, List.set_cons_zero, List.set_cons_succ, i64_w, i32_w]
    rfl
  refine pure_ (i := 13) (N := some 130) (v := ?_) (a' := ?_) #[true, true, true, true, true, true, true, true, true, true, true, true, true, true, false, false, false, false, false, false, false, false, false, false, false, false, false, false, false, false] rfl rfl (by kernel_rfl) (fun _ _ _ h => h) (Or.inl ⟨by rfl, ?_⟩) ?_ ?_
  rotate_left
  · intro w'
    go_simp
    with_reducible rfl
  rotate_left
  · simp only [Act.put, List.setIfInBounds_toArray, List.set_cons_zero, List.set_cons_succ, i64_w, i32_w]
    rfl
  refine pure_ (i := 14) (N := some 131) (v := ?_) (a' := ?_) #[true, true, true, true, true, true, true, true, true, true, true, true, true, true, true, false, false, false, false, false, false, false, false, false, false, false, false, false, false, false] rfl rfl (by kernel_rfl) (fun _ _ _ h => h) (Or.inl ⟨by rfl, ?_⟩) ?_ ?_
  rotate_left
  · intro w'
    go_simp
    with_reducible rfl
  rotate_left
  · simp only [Act.put, List.setIfInBounds_toArray, List.set_cons_zero, List.set_cons_succ, i64_w, i32_w]
    rfl
  refine pure_ (i := 15) (N := some 132) (v := ?_) (a' := ?_) #[true, true, true, true, true, true, true, true, true, true, true, true, true, true, true, true, false, false, false, false, false, false, false, false, false, false, false, false, false, false] rfl rfl (by kernel_rfl) (fun _ _ _ h => h) (Or.inl ⟨by rfl, ?_⟩) ?_ ?_
  rotate_left
  · intro w'
    go_simp
    with_reducible rfl
  rotate_left
  · simp only [Act.put, List.setIfInBounds_toArray, List.set_cons_zero, List.set_cons_succ, i64_w, i32_w]
    rfl
  refine pure_ (i := 16) (N := some 133) (v := ?_) (a' := ?_) #[true, true, true, true, true, true, true, true, true, true, true, true, true, true, true, true, true, false, false, false, false, false, false, false, false, false, false, false, false, false] rfl rfl (by kernel_rfl) (fun _ _ _ h => h) (Or.inl ⟨by rfl, ?_⟩) ?_ ?_
  rotate_left
  · intro w'
    go_simp
    with_reducible rfl
  rotate_left
  · simp only [Act.put, List.setIfInBounds_toArray, List.set_cons_zero, List.set_cons_succ, i64_w, i32_w]
    rfl
  refine pure_ (i := 17) (N := some 134) (v := ?_) (a' := ?_) #[true, true, true, true, true, true, true, true, true, true, true, true, true, true, true, true, true, true, false, false, false, false, false, false, false, false, false, false, false, false] rfl rfl (by kernel_rfl) (fun _ _ _ h => h) (Or.inl ⟨by rfl, ?_⟩) ?_ ?_
  rotate_left
  · intro w'
    go_simp
    with_reducible rfl
  rotate_left
  · simp only [Act.put, List.setIfInBounds_toArray, List.set_cons_zero, List.set_cons_succ, i64_w, i32_w]
    rfl
  refine pure_ (i := 18) (N := some 135) (v := ?_) (a' := ?_) #[true, true, true, true, true, true, true, true, true, true, true, true, true, true, true, true, true, true, true, false, false, false, false, false, false, false, false, false, false, false] rfl rfl (by kernel_rfl) (fun _ _ _ h => h) (Or.inl ⟨by rfl, ?_⟩) ?_ ?_
  rotate_left
  · intro w'
    go_simp
    with_reducible rfl
  rotate_left
  · simp only [Act.put, List.setIfInBounds_toArray, List.set_cons_zero, List.set_cons_succ, i64_w, i32_w]
    rfl
  refine pure_ (i := 19) (N := some 136) (v := ?_) (a' := ?_) #[true, true, true, true, true, true, true, true, true, true, true, true, true, true, true, true, true, true, true, true, false, false, false, false, false, false, false, false, false, false] rfl rfl (by kernel_rfl) (fun _ _ _ h => h) (Or.inl ⟨by rfl, ?_⟩) ?_ ?_
  rotate_left
  · intro w'
    go_simp
    with_reducible rfl
  rotate_left
  · simp only [Act.put, List.setIfInBounds_toArray, List.set_cons_zero, List.set_cons_succ, i64_w, i32_w]
    rfl
  refine pure_ (i := 20) (N := some 137) (v := ?_) (a' := ?_) #[true, true, true, true, true, true, true, true, true, true, true, true, true, true, true, true, true, true, true, true, true, false, false, false, false, false, false, false, false, false] rfl rfl (by kernel_rfl) (fun _ _ _ h => h) (Or.inl ⟨by rfl, ?_⟩) ?_ ?_
  rotate_left
  · intro w'
    go_simp
    with_reducible rfl
  rotate_left
  · simp only [Act.put, List.setIfInBounds_toArray, List.set_cons_zero, List.set_cons_succ, i64_w, i32_w]
    rfl
  refine pure_ (i := 21) (N := some 138) (v := ?_) (a' := ?_) #[true, true, true, true, true, true, true, true, true, true, true, true, true, true, true, true, true, true, true, true, true, true, false, false, false, false, false, false, false, false] rfl rfl (by kernel_rfl) (fun _ _ _ h => h) (Or.inl ⟨by rfl, ?_⟩) ?_ ?_
  rotate_left
  · intro w'
    go_simp
    with_reducible rfl
  rotate_left
  · simp only [Act.put, List.setIfInBounds_toArray, List.set_cons_zero, List.set_cons_succ, i64_w, i32_w]
    rfl
  refine pure_ (i := 22) (N := some 139) (v := ?_) (a' := ?_) #[true, true, true, true, true, true, true, true, true, true, true, true, true, true, true, true, true, true, true, true, true, true, true, false, false, false, false, false, false, false] rfl rfl (by kernel_rfl) (fun _ _ _ h => h) (Or.inl ⟨by rfl, ?_⟩) ?_ ?_
  rotate_left
  · intro w'
    go_simp
    with_reducible rfl
  rotate_left
  · simp only [Act.put, List.setIfInBounds_toArray, List.set_cons_zero, List.set_cons_succ, i64_w, i32_w]
    rfl
  refine pure_ (i := 23) (N := some 140) (v := ?_) (a' := ?_) #[true, true, true, true, true, true, true, true, true, true, true, true, true, true, true, true, true, true, true, true, true, true, true, true, false, false, false, false, false, false] rfl rfl (by kernel_rfl) (fun _ _ _ h => h) (Or.inl ⟨by rfl, ?_⟩) ?_ ?_
  rotate_left
  · intro w'
    go_simp
    with_reducible rfl
  rotate_left
  · simp only [Act.put, List.setIfInBounds_toArray, List.set_cons_zero, List.set_cons_succ, i64_w, i32_w]
    rfl
  refine pure_ (i := 24) (N := some 141) (v := ?_) (a' := ?_) #[true, true, true, true, true, true, true, true, true, true, true, true, true, true, true, true, true, true, true, true, true, true, true, true, true, false, false, false, false, false] rfl rfl (by kernel_rfl) (fun _ _ _ h => h) (Or.inl ⟨by rfl, ?_⟩) ?_ ?_
  rotate_left
  · intro w'
    go_simp
    with_reducible rfl
  rotate_left
  · simp only [Act.put, List.setIfInBounds_toArray, List.set_cons_zero, List.set_cons_succ, i64_w, i32_w]
    rfl
  refine pure_ (i := 25) (N := some 142) (v := ?_) (a' := ?_) #[true, true, true, true, true, true, true, true, true, true, true, true, true, true, true, true, true, true, true, true, true, true, true, true, true, true, false, false, false, false] rfl rfl (by kernel_rfl) (fun _ _ _ h => h) (Or.inl ⟨by rfl, ?_⟩) ?_ ?_
  rotate_left
  · intro w'
    go_simp
    with_reducible rfl
  rotate_left
  · simp only [Act.put, List.setIfInBounds_toArray, List.set_cons_zero, List.set_cons_succ, i64_w, i32_w]
    rfl
  refine pure_ (i := 26) (N := some 143) (v := ?_) (a' := ?_) #[true, true, true, true, true, true, true, true, true, true, true, true, true, true, true, true, true, true, true, true, true, true, true, true, true, true, true, false, false, false] rfl rfl (by kernel_rfl) (fun _ _ _ h => h) (Or.inl ⟨by rfl, ?_⟩) ?_ ?_
  rotate_left
  · intro w'
    go_simp
    with_reducible rfl
  rotate_left
  · simp only [Act.put, List.setIfInBounds_toArray, List.set_cons_zero, List.set_cons_succ, i64_w, i32_w]
    rfl
  refine pure_ (i := 27) (N := some 144) (v := ?_) (a' := ?_) #[true, true, true, true, true, true, true, true, true, true, true, true, true, true, true, true, true, true, true, true, true, true, true, true, true, true, true, true, false, false] rfl rfl (by kernel_rfl) (fun _ _ _ h => h) (Or.inl ⟨by rfl, ?_⟩) ?_ ?_
  rotate_left
  · intro w'
    go_simp
    with_reducible rfl
  rotate_left
  · simp only [Act.put, List.setIfInBounds_toArray, List.set_cons_zero, List.set_cons_succ, i64_w, i32_w]
    rfl
  refine pure_ (i := 28) (N := some 145) (v := ?_) (a' := ?_) #[true, true, true, true, true, true, true, true, true, true, true, true, true, true, true, true, true, true, true, true, true, true, true, true, true, true, true, true, true, false] rfl rfl (by kernel_rfl) (fun _ _ _ h => h) (Or.inl ⟨by rfl, ?_⟩) ?_ ?_
  rotate_left
  · intro w'
    go_simp
    with_reducible rfl
  rotate_left
  · simp only [Act.put, List.setIfInBounds_toArray, List.set_cons_zero, List.set_cons_succ, i64_w, i32_w]
    rfl
  refine last_ (i := 29) (N := none) #[true, true, true, true, true, true, true, true, true, true, true, true, true, true, true, true, true, true, true, true, true, true, true, true, true, true, true, true, true, true] rfl rfl (by kernel_rfl) (by decide) (fun K hK => ?_)
  obtain ⟨p0, p1, p2, pf⟩ := box3 hHeld.2.out
  go_simp
  refine hK.out _ _ ?_
  clear hK K
  refine done_ (by kernel_rfl) ?_
  go_wp2_with fail
  refine bodyPost_ret (results_cell_row rfl _ _ w.heap.size 164 #[.int .i64 (b % 8 * 262144 + b1 % 64 * 4096 + b2 % 64 * 64 + b3 % 64), .int .i64 i, .int .i64 4] (0, 0) _ rfl (heap_alloc_new _ _) Try.underlying164 rfl (by kernel_rfl)) rfl ⟨by rw [hR.out]; rfl, ((Below.refl _ _).alloc (Nat.le_refl _) _).drew⟩
set_option maxHeartbeats 4000000 in
set_option maxRecDepth 100000 in
theorem one_e0b (s : ByteArray) (i : Nat) (w : World) (hi : i < s.size) (hs : s.size ≤ 140737488355328) (b : Int) (hb : (s[i].toNat : Int) = b) (lo0 : 0 ≤ b) (hi0 : b < 256) (h1 : 240 ≤ b) (h2 : b ≤ 244) (ea : (b == 240) = false) (eb : (b == 244) = true) (c1 : Q (contB s (i + 1) 128 143 = false)) (r : Int × Nat) (hR : Q (r = (-1, 1))) :
    Calls Try.prog 148 #[.string s, .int .i64 i] w fun e w' => e = .returned (.agg #[.int .i64 r.1, .int .i64 i, .int .i64 (r.2 : Nat)]) ∧ Below w.heap.size w w' := by
  have t1 : decide (b < 128) = false := by simp; omega
  have t2 : decide (194 ≤ b) = true := by simp; omega
  have t3 : decide (b ≤ 223) = false := by simp; omega
  have t4 : decide (224 ≤ b) = true := by simp; omega
  have t5 : decide (b ≤ 239) = false := by simp; omega
  have t6 : decide (240 ≤ b) = true := by simp; omega
  have t7 : decide (b ≤ 244) = true := by simp; omega
  go_enter Try.func148, Try.ntmps148
  go_wp2_with (go_at_call 150; with_reducible refine (cont_ref s (i + 1) 128 143 _ _ (by omega) (by omega)).mono ?_; rw [c1.out]; rintro e w2 ⟨rfl, rfl⟩)
  refine bodyPost_ret (results_cell_row rfl _ _ w.heap.size 164 #[.int .i64 (-1), .int .i64 i, .int .i64 1] (0, 0) _ rfl (heap_alloc_new _ _) Try.underlying164 rfl (by kernel_rfl)) rfl ⟨by rw [hR.out]; rfl, (Below.refl _ _).alloc (Nat.le_refl _) _⟩
set_option maxHeartbeats 4000000 in
set_option maxRecDepth 100000 in
theorem one_e1b (s : ByteArray) (i : Nat) (w : World) (hi : i < s.size) (hs : s.size ≤ 140737488355328) (b : Int) (hb : (s[i].toNat : Int) = b) (lo0 : 0 ≤ b) (hi0 : b < 256) (h1 : 240 ≤ b) (h2 : b ≤ 244) (ea : (b == 240) = false) (eb : (b == 244) = true) (c1 : Q (contB s (i + 1) 128 143 = true)) (c2 : Q (contB s (i + 2) 128 191 = false)) (r : Int × Nat) (hR : Q (r = (-1, 1))) :
    Calls Try.prog 148 #[.string s, .int .i64 i] w fun e w' => e = .returned (.agg #[.int .i64 r.1, .int .i64 i, .int .i64 (r.2 : Nat)]) ∧ Below w.heap.size w w' := by
  have t1 : decide (b < 128) = false := by simp; omega
  have t2 : decide (194 ≤ b) = true := by simp; omega
  have t3 : decide (b ≤ 223) = false := by simp; omega
  have t4 : decide (224 ≤ b) = true := by simp; omega
  have t5 : decide (b ≤ 239) = false := by simp; omega
  have t6 : decide (240 ≤ b) = true := by simp; omega
  have t7 : decide (b ≤ 244) = true := by simp; omega
  go_enter Try.func148, Try.ntmps148
  go_wp2_with (first | (go_at_call 150; with_reducible refine (cont_ref s (i + 1) 128 143 _ _ (by omega) (by omega)).mono ?_; rw [c1.out]; rintro e w2 ⟨rfl, rfl⟩) | (go_at_call 150; with_reducible refine (cont_ref s (i + 2) 128 191 _ _ (by omega) (by omega)).mono ?_; rw [c2.out]; rintro e w2 ⟨rfl, rfl⟩))
  refine bodyPost_ret (results_cell_row rfl _ _ w.heap.size 164 #[.int .i64 (-1), .int .i64 i, .int .i64 1] (0, 0) _ rfl (heap_alloc_new _ _) Try.underlying164 rfl (by kernel_rfl)) rfl ⟨by rw [hR.out]; rfl, (Below.refl _ _).alloc (Nat.le_refl _) _⟩
set_option maxHeartbeats 4000000 in
set_option maxRecDepth 100000 in
theorem one_e2b (s : ByteArray) (i : Nat) (w : World) (hi : i < s.size) (hs : s.size ≤ 140737488355328) (b : Int) (hb : (s[i].toNat : Int) = b) (lo0 : 0 ≤ b) (hi0 : b < 256) (h1 : 240 ≤ b) (h2 : b ≤ 244) (ea : (b == 240) = false) (eb : (b == 244) = true) (c1 : Q (contB s (i + 1) 128 143 = true)) (c2 : Q (contB s (i + 2) 128 191 = true)) (c3 : Q (contB s (i + 3) 128 191 = false)) (r : Int × Nat) (hR : Q (r = (-1, 1))) :
    Calls Try.prog 148 #[.string s, .int .i64 i] w fun e w' => e = .returned (.agg #[.int .i64 r.1, .int .i64 i, .int .i64 (r.2 : Nat)]) ∧ Below w.heap.size w w' := by
  have t1 : decide (b < 128) = false := by simp; omega
  have t2 : decide (194 ≤ b) = true := by simp; omega
  have t3 : decide (b ≤ 223) = false := by simp; omega
  have t4 : decide (224 ≤ b) = true := by simp; omega
  have t5 : decide (b ≤ 239) = false := by simp; omega
  have t6 : decide (240 ≤ b) = true := by simp; omega
  have t7 : decide (b ≤ 244) = true := by simp; omega
  go_enter Try.func148, Try.ntmps148
  go_wp2_with (first | (go_at_call 150; with_reducible refine (cont_ref s (i + 1) 128 143 _ _ (by omega) (by omega)).mono ?_; rw [c1.out]; rintro e w2 ⟨rfl, rfl⟩) | (go_at_call 150; with_reducible refine (cont_ref s (i + 2) 128 191 _ _ (by omega) (by omega)).mono ?_; rw [c2.out]; rintro e w2 ⟨rfl, rfl⟩) | (go_at_call 150; with_reducible refine (cont_ref s (i + 3) 128 191 _ _ (by omega) (by omega)).mono ?_; rw [c3.out]; rintro e w2 ⟨rfl, rfl⟩))
  refine bodyPost_ret (results_cell_row rfl _ _ w.heap.size 164 #[.int .i64 (-1), .int .i64 i, .int .i64 1] (0, 0) _ rfl (heap_alloc_new _ _) Try.underlying164 rfl (by kernel_rfl)) rfl ⟨by rw [hR.out]; rfl, (Below.refl _ _).alloc (Nat.le_refl _) _⟩
set_option maxHeartbeats 4000000 in
set_option maxRecDepth 100000 in
theorem one_e3b (s : ByteArray) (i : Nat) (w : World) (hi : i < s.size) (hs : s.size ≤ 140737488355328) (b : Int) (hb : (s[i].toNat : Int) = b) (lo0 : 0 ≤ b) (hi0 : b < 256) (h1 : 240 ≤ b) (h2 : b ≤ 244) (ea : (b == 240) = false) (eb : (b == 244) = true) (c1 : Q (contB s (i + 1) 128 143 = true)) (c2 : Q (contB s (i + 2) 128 191 = true)) (c3 : Q (contB s (i + 3) 128 191 = true)) (hi1 : i + 1 < s.size) (b1 : Int) (hb1 : ((s[i + 1]'hi1).toNat : Int) = b1) (l1 : 0 ≤ b1) (u1 : b1 < 256) (hi2 : i + 2 < s.size) (b2 : Int) (hb2 : ((s[i + 2]'hi2).toNat : Int) = b2) (l2 : 0 ≤ b2) (u2 : b2 < 256) (hi3 : i + 3 < s.size) (b3 : Int) (hb3 : ((s[i + 3]'hi3).toNat : Int) = b3) (l3 : 0 ≤ b3) (u3 : b3 < 256) (r : Int × Nat) (hR : Q (r = (b % 8 * 262144 + b1 % 64 * 4096 + b2 % 64 * 64 + b3 % 64, 4))) :
    Calls Try.prog 148 #[.string s, .int .i64 i] w fun e w' => e = .returned (.agg #[.int .i64 r.1, .int .i64 i, .int .i64 (r.2 : Nat)]) ∧ Below w.heap.size w w' := by
  have t1 : decide (b < 128) = false := by simp; omega
  have t2 : decide (194 ≤ b) = true := by simp; omega
  have t3 : decide (b ≤ 223) = false := by simp; omega
  have t4 : decide (224 ≤ b) = true := by simp; omega
  have t5 : decide (b ≤ 239) = false := by simp; omega
  have t6 : decide (240 ≤ b) = true := by simp; omega
  have t7 : decide (b ≤ 244) = true := by simp; omega
  have hs2 : s.size < 4611686018427387904 := by omega
  have Q10 : Q ((0 : Int) ≤ (i : Int) + 1) := ⟨by omega⟩
  have Q11 : Q ((i : Int) + 1 < (s.size : Int)) := ⟨by omega⟩
  have Q12 : Q (((i : Int) + 1).toNat = i + 1) := ⟨by omega⟩
  have Q20 : Q ((0 : Int) ≤ (i : Int) + 2) := ⟨by omega⟩
  have Q21 : Q ((i : Int) + 2 < (s.size : Int)) := ⟨by omega⟩
  have Q22 : Q (((i : Int) + 2).toNat = i + 2) := ⟨by omega⟩
  have Q30 : Q ((0 : Int) ≤ (i : Int) + 3) := ⟨by omega⟩
  have Q31 : Q ((i : Int) + 3 < (s.size : Int)) := ⟨by omega⟩
  have Q32 : Q (((i : Int) + 3).toNat = i + 3) := ⟨by omega⟩
  have V0 : Q (wrap64 ((i : Int) + 1) = (i : Int) + 1) := ⟨IntWalk.wrap64_in _ (by omega)⟩
  have V1 : Q (wrap64 ((i : Int) + 2) = (i : Int) + 2) := ⟨IntWalk.wrap64_in _ (by omega)⟩
  have V2 : Q (wrap64 ((i : Int) + 3) = (i : Int) + 3) := ⟨IntWalk.wrap64_in _ (by omega)⟩
  have V3 : Q (wrap64 (b % 8) = b % 8) := ⟨IntWalk.wrap64_in _ (by omega)⟩
  have V4 : Q (wrap64 (b1 % 64) = b1 % 64) := ⟨IntWalk.wrap64_in _ (by omega)⟩
  have V5 : Q (wrap64 (b2 % 64) = b2 % 64) := ⟨IntWalk.wrap64_in _ (by omega)⟩
  have V6 : Q (wrap64 (b3 % 64) = b3 % 64) := ⟨IntWalk.wrap64_in _ (by omega)⟩
  have V7 : Q (wrap64 (b % 8 * 262144) = b % 8 * 262144) := ⟨IntWalk.wrap64_in _ (by omega)⟩
  have V8 : Q (wrap64 (b1 % 64 * 4096) = b1 % 64 * 4096) := ⟨IntWalk.wrap64_in _ (by omega)⟩
  have V9 : Q (wrap64 (b2 % 64 * 64) = b2 % 64 * 64) := ⟨IntWalk.wrap64_in _ (by omega)⟩
  have G0 := Q.mk (heap_alloc_new w (.cells #[.int .i64 0, .int .i64 0, .int .i64 0] 164))
  have BB : Below w.heap.size w (w.alloc (.cells #[.int .i64 0, .int .i64 0, .int .i64 0] 164)) := (Below.refl _ _).alloc (Nat.le_refl _) _
  replace BB := Q.mk BB
  have j1 := u8_and7 b lo0 hi0
  have j2 := u8_and63 b1 l1 u1
  have j3 := u8_and63 b2 l2 u2
  have j4 := u8_and63 b3 l3 u3
  have m1 : 0 ≤ b % 8 := by omega
  have m2 : b % 8 < 8 := by omega
  have m3 : 0 ≤ b1 % 64 := by omega
  have m4 : b1 % 64 < 64 := by omega
  have m5 : 0 ≤ b2 % 64 := by omega
  have m6 : b2 % 64 < 64 := by omega
  have m7 : 0 ≤ b3 % 64 := by omega
  have m8 : b3 % 64 < 64 := by omega
  have j5 := i64_or 18 (b % 8 * 262144) (b1 % 64 * 4096) (by omega) (by omega) (by omega) (by omega) (by omega) (by omega) (by omega)
  have j6 := i64_or 12 (b % 8 * 262144 + b1 % 64 * 4096) (b2 % 64 * 64) (by omega) (by omega) (by omega) (by omega) (by omega) (by omega) (by omega)
  have j7 := i64_or 6 (b % 8 * 262144 + b1 % 64 * 4096 + b2 % 64 * 64) (b3 % 64) (by omega) (by omega) (by omega) (by omega) (by omega) (by omega) (by omega)
  go_enter Try.func148, Try.ntmps148
  go_wp2_with (first | (go_at_call 150; with_reducible refine (cont_ref s (i + 1) 128 143 _ _ (by omega) (by omega)).mono ?_; rw [c1.out]; rintro e w2 ⟨rfl, rfl⟩) | (go_at_call 150; with_reducible refine (cont_ref s (i + 2) 128 191 _ _ (by omega) (by omega)).mono ?_; rw [c2.out]; rintro e w2 ⟨rfl, rfl⟩) | (go_at_call 150; with_reducible refine (cont_ref s (i + 3) 128 191 _ _ (by omega) (by omega)).mono ?_; rw [c3.out]; rintro e w2 ⟨rfl, rfl⟩))
  have q10 := Q10.out
  have q11 := Q11.out
  have q12 := Q12.out
  have q20 := Q20.out
  have q21 := Q21.out
  have q22 := Q22.out
  have q30 := Q30.out
  have q31 := Q31.out
  have q32 := Q32.out
  have v0 := V0.out
  have v1 := V1.out
  have v2 := V2.out
  have v3 := V3.out
  have v4 := V4.out
  have v5 := V5.out
  have v6 := V6.out
  have v7 := V7.out
  have v8 := V8.out
  have v9 := V9.out
  refine start_ (n := 30) (S := fun w' => Q (Below w.heap.size w w') ∧ Q (w'.heap[w.heap.size]? = some (.cells #[.int .i64 0, .int .i64 0, .int .i64 0] 164 (0, 0)))) (ds := [29]) #[false, false, false, false, false, false, false, false, false, false, false, false, false, false, false, false, false, false, false, false, false, false, false, false, false, false, false, false, false, false] (by kernel_rfl) rfl rfl ⟨⟨BB.out.drew⟩, ⟨G0.out⟩⟩ (fun hHeld => ?_)
  refine pure_ (i := 0) (N := some 117) (v := ?_) (a' := ?_) #[true, false, false, false, false, false, false, false, false, false, false, false, false, false, false, false, false, false, false, false, false, false, false, false, false, false, false, false, false, false] rfl rfl (by kernel_rfl) (fun _ _ _ h => h) (Or.inl ⟨by rfl, ?_⟩) ?_ ?_
  rotate_left
  · intro w'
    go_simp
    with_reducible rfl
  rotate_left
  · simp only [Act.put, List.setIfInBounds_toArray, List.set_cons_zero, List.set_cons_succ, i64_w, i32_w]
    rfl
  refine pure_ (i := 1) (N := some 118) (v := ?_) (a' := ?_) #[true, true, false, false, false, false, false, false, false, false, false, false, false, false, false, false, false, false, false, false, false, false, false, false, false, false, false, false, false, false] rfl rfl (by kernel_rfl) (fun _ _ _ h => h) (Or.inl ⟨by rfl, ?_⟩) ?_ ?_
  rotate_left
  · intro w'
    go_simp
    with_reducible rfl
  rotate_left
  · simp only [Act.put, List.setIfInBounds_toArray, List.set_cons_zero, List.set_cons_succ, i64_w, i32_w]
    rfl
  refine pure_ (i := 2) (N := some 119) (v := ?_) (a' := ?_) #[true, true, true, false, false, false, false, false, false, false, false, false, false, false, false, false, false, false, false, false, false, false, false, false, false, false, false, false, false, false] rfl rfl (by kernel_rfl) (fun _ _ _ h => h) (Or.inl ⟨by rfl, ?_⟩) ?_ ?_
  rotate_left
  · intro w'
    go_simp
    with_reducible rfl
  rotate_left
  · simp only [Act.put, List.setIfInBounds_toArray, List.set_cons_zero, List.set_cons_succ, i64_w, i32_w]
    rfl
  refine pure_ (i := 3) (N := some 120) (v := ?_) (a' := ?_) #[true, true, true, true, false, false, false, false, false, false, false, false, false, false, false, false, false, false, false, false, false, false, false, false, false, false, false, false, false, false] rfl rfl (by kernel_rfl) (fun _ _ _ h => h) (Or.inl ⟨by rfl, ?_⟩) ?_ ?_
  rotate_left
  · intro w'
    go_simp
    with_reducible rfl
  rotate_left
  · simp only [Act.put, List.setIfInBounds_toArray, List.set_cons_zero, List.set_cons_succ, i64_w, i32_w]
    rfl
  refine pure_ (i := 4) (N := some 121) (v := ?_) (a' := ?_) #[true, true, true, true, true, false, false, false, false, false, false, false, false, false, false, false, false, false, false, false, false, false, false, false, false, false, false, false, false, false] rfl rfl (by kernel_rfl) (fun _ _ _ h => h) (Or.inl ⟨by rfl, ?_⟩) ?_ ?_
  rotate_left
  · intro w'
    go_simp
    with_reducible rfl
  rotate_left
  · simp only [Act.put, List.setIfInBounds_toArray, List.set_cons_zero, List.set_cons_succ, i64_w, i32_w]
    rfl
  refine pure_ (i := 5) (N := some 122) (v := ?_) (a' := ?_) #[true, true, true, true, true, true, false, false, false, false, false, false, false, false, false, false, false, false, false, false, false, false, false, false, false, false, false, false, false, false] rfl rfl (by kernel_rfl) (fun _ _ _ h => h) (Or.inl ⟨by rfl, ?_⟩) ?_ ?_
  rotate_left
  · intro w'
    go_simp
    with_reducible rfl
  rotate_left
  · simp only [Act.put, List.setIfInBounds_toArray, List.set_cons_zero, List.set_cons_succ, i64_w, i32_w]
    rfl
  refine pure_ (i := 6) (N := some 123) (v := ?_) (a' := ?_) #[true, true, true, true, true, true, true, false, false, false, false, false, false, false, false, false, false, false, false, false, false, false, false, false, false, false, false, false, false, false] rfl rfl (by kernel_rfl) (fun _ _ _ h => h) (Or.inl ⟨by rfl, ?_⟩) ?_ ?_
  rotate_left
  · intro w'
    go_simp
    with_reducible rfl
  rotate_left
  · simp only [Act.put, List.setIfInBounds_toArray, List.set_cons_zero, List.set_cons_succ, i64_w, i32_w]
    rfl
  refine pure_ (i := 7) (N := some 124) (v := ?_) (a' := ?_) #[true, true, true, true, true, true, true, true, false, false, false, false, false, false, false, false, false, false, false, false, false, false, false, false, false, false, false, false, false, false] rfl rfl (by kernel_rfl) (fun _ _ _ h => h) (Or.inl ⟨by rfl, ?_⟩) ?_ ?_
  rotate_left
  · intro w'
    go_simp
    with_reducible rfl
  rotate_left
  · simp only [Act.put, List.setIfInBounds_toArray, List.set_cons_zero, List.set_cons_succ, i64_w, i32_w]
    rfl
  refine pure_ (i := 8) (N := some 125) (v := ?_) (a' := ?_) #[true, true, true, true, true, true, true, true, true, false, false, false, false, false, false, false, false, false, false, false, false, false, false, false, false, false, false, false, false, false] rfl rfl (by kernel_rfl) (fun _ _ _ h => h) (Or.inl ⟨by rfl, ?_⟩) ?_ ?_
  rotate_left
  · intro w'
    go_simp
    with_reducible rfl
  rotate_left
  · simp only [Act.put, List.setIfInBounds_toArray, List.set_cons_zero, List.set_cons_succ, i64_w, i32_w]
    rfl
  refine pure_ (i := 9) (N := some 126) (v := ?_) (a' := ?_) #[true, true, true, true, true, true, true, true, true, true, false, false, false, false, false, false, false, false, false, false, false, false, false, false, false, false, false, false, false, false] rfl rfl (by kernel_rfl) (fun _ _ _ h => h) (Or.inl ⟨by rfl, ?_⟩) ?_ ?_
  rotate_left
  · intro w'
    go_simp
    with_reducible rfl
  rotate_left
  · simp only [Act.put, List.setIfInBounds_toArray, List.set_cons_zero, List.set_cons_succ, i64_w, i32_w]
    rfl
  refine pure_ (i := 10) (N := some 127) (v := ?_) (a' := ?_) #[true, true, true, true, true, true, true, true, true, true, true, false, false, false, false, false, false, false, false, false, false, false, false, false, false, false, false, false, false, false] rfl rfl (by kernel_rfl) (fun _ _ _ h => h) (Or.inl ⟨by rfl, ?_⟩) ?_ ?_
  rotate_left
  · intro w'
    go_simp
    with_reducible rfl
  rotate_left
  · simp only [Act.put, List.setIfInBounds_toArray, List.set_cons_zero, List.set_cons_succ, i64_w, i32_w]
    rfl
  refine pure_ (i := 11) (N := some 128) (v := ?_) (a' := ?_) #[true, true, true, true, true, true, true, true, true, true, true, true, false, false, false, false, false, false, false, false, false, false, false, false, false, false, false, false, false, false] rfl rfl (by kernel_rfl) (fun _ _ _ h => h) (Or.inl ⟨by rfl, ?_⟩) ?_ ?_
  rotate_left
  · intro w'
    go_simp
    with_reducible rfl
  rotate_left
  · simp only [Act.put, List.setIfInBounds_toArray, List.set_cons_zero, List.set_cons_succ, i64_w, i32_w]
    rfl
  refine pure_ (i := 12) (N := some 129) (v := ?_) (a' := ?_) #[true, true, true, true, true, true, true, true, true, true, true, true, true, false, false, false, false, false, false, false, false, false, false, false, false, false, false, false, false, false] rfl rfl (by kernel_rfl) (fun _ _ _ h => h) (Or.inl ⟨by rfl, ?_⟩) ?_ ?_
  rotate_left
  · intro w'
    go_simp
    with_reducible rfl
  rotate_left
  · simp only [Act.put, List.setIfInBounds_toArray, List.set_cons_zero, List.set_cons_succ, i64_w, i32_w]
    rfl
  refine pure_ (i := 13) (N := some 130) (v := ?_) (a' := ?_) #[true, true, true, true, true, true, true, true, true, true, true, true, true, true, false, false, false, false, false, false, false, false, false, false, false, false, false, false, false, false] rfl rfl (by kernel_rfl) (fun _ _ _ h => h) (Or.inl ⟨by rfl, ?_⟩) ?_ ?_
  rotate_left
  · intro w'
    go_simp
    with_reducible rfl
  rotate_left
  · simp only [Act.put, List.setIfInBounds_toArray, List.set_cons_zero, List.set_cons_succ, i64_w, i32_w]
    rfl
  refine pure_ (i := 14) (N := some 131) (v := ?_) (a' := ?_) #[true, true, true, true, true, true, true, true, true, true, true, true, true, true, true, false, false, false, false, false, false, false, false, false, false, false, false, false, false, false] rfl rfl (by kernel_rfl) (fun _ _ _ h => h) (Or.inl ⟨by rfl, ?_⟩) ?_ ?_
  rotate_left
  · intro w'
    go_simp
    with_reducible rfl
  rotate_left
  · simp only [Act.put, List.setIfInBounds_toArray, List.set_cons_zero, List.set_cons_succ, i64_w, i32_w]
    rfl
  refine pure_ (i := 15) (N := some 132) (v := ?_) (a' := ?_) #[true, true, true, true, true, true, true, true, true, true, true, true, true, true, true, true, false, false, false, false, false, false, false, false, false, false, false, false, false, false] rfl rfl (by kernel_rfl) (fun _ _ _ h => h) (Or.inl ⟨by rfl, ?_⟩) ?_ ?_
  rotate_left
  · intro w'
    go_simp
    with_reducible rfl
  rotate_left
  · simp only [Act.put, List.setIfInBounds_toArray, List.set_cons_zero, List.set_cons_succ, i64_w, i32_w]
    rfl
  refine pure_ (i := 16) (N := some 133) (v := ?_) (a' := ?_) #[true, true, true, true, true, true, true, true, true, true, true, true, true, true, true, true, true, false, false, false, false, false, false, false, false, false, false, false, false, false] rfl rfl (by kernel_rfl) (fun _ _ _ h => h) (Or.inl ⟨by rfl, ?_⟩) ?_ ?_
  rotate_left
  · intro w'
    go_simp
    with_reducible rfl
  rotate_left
  · simp only [Act.put, List.setIfInBounds_toArray, List.set_cons_zero, List.set_cons_succ, i64_w, i32_w]
    rfl
  refine pure_ (i := 17) (N := some 134) (v := ?_) (a' := ?_) #[true, true, true, true, true, true, true, true, true, true, true, true, true, true, true, true, true, true, false, false, false, false, false, false, false, false, false, false, false, false] rfl rfl (by kernel_rfl) (fun _ _ _ h => h) (Or.inl ⟨by rfl, ?_⟩) ?_ ?_
  rotate_left
  · intro w'
    go_simp
    with_reducible rfl
  rotate_left
  · simp only [Act.put, List.setIfInBounds_toArray, List.set_cons_zero, List.set_cons_succ, i64_w, i32_w]
    rfl
  refine pure_ (i := 18) (N := some 135) (v := ?_) (a' := ?_) #[true, true, true, true, true, true, true, true, true, true, true, true, true, true, true, true, true, true, true, false, false, false, false, false, false, false, false, false, false, false] rfl rfl (by kernel_rfl) (fun _ _ _ h => h) (Or.inl ⟨by rfl, ?_⟩) ?_ ?_
  rotate_left
  · intro w'
    go_simp
    with_reducible rfl
  rotate_left
  · simp only [Act.put, List.setIfInBounds_toArray, List.set_cons_zero, List.set_cons_succ, i64_w, i32_w]
    rfl
  refine pure_ (i := 19) (N := some 136) (v := ?_) (a' := ?_) #[true, true, true, true, true, true, true, true, true, true, true, true, true, true, true, true, true, true, true, true, false, false, false, false, false, false, false, false, false, false] rfl rfl (by kernel_rfl) (fun _ _ _ h => h) (Or.inl ⟨by rfl, ?_⟩) ?_ ?_
  rotate_left
  · intro w'
    go_simp
    with_reducible rfl
  rotate_left
  · simp only [Act.put, List.setIfInBounds_toArray, List.set_cons_zero, List.set_cons_succ, i64_w, i32_w]
    rfl
  refine pure_ (i := 20) (N := some 137) (v := ?_) (a' := ?_) #[true, true, true, true, true, true, true, true, true, true, true, true, true, true, true, true, true, true, true, true, true, false, false, false, false, false, false, false, false, false] rfl rfl (by kernel_rfl) (fun _ _ _ h => h) (Or.inl ⟨by rfl, ?_⟩) ?_ ?_
  rotate_left
  · intro w'
    go_simp
    with_reducible rfl
  rotate_left
  · simp only [Act.put, List.setIfInBounds_toArray, List.set_cons_zero, List.set_cons_succ, i64_w, i32_w]
    rfl
  refine pure_ (i := 21) (N := some 138) (v := ?_) (a' := ?_) #[true, true, true, true, true, true, true, true, true, true, true, true, true, true, true, true, true, true, true, true, true, true, false, false, false, false, false, false, false, false] rfl rfl (by kernel_rfl) (fun _ _ _ h => h) (Or.inl ⟨by rfl, ?_⟩) ?_ ?_
  rotate_left
  · intro w'
    go_simp
    with_reducible rfl
  rotate_left
  · simp only [Act.put, List.setIfInBounds_toArray, List.set_cons_zero, List.set_cons_succ, i64_w, i32_w]
    rfl
  refine pure_ (i := 22) (N := some 139) (v := ?_) (a' := ?_) #[true, true, true, true, true, true, true, true, true, true, true, true, true, true, true, true, true, true, true, true, true, true, true, false, false, false, false, false, false, false] rfl rfl (by kernel_rfl) (fun _ _ _ h => h) (Or.inl ⟨by rfl, ?_⟩) ?_ ?_
  rotate_left
  · intro w'
    go_simp
    with_reducible rfl
  rotate_left
  · simp only [Act.put, List.setIfInBounds_toArray, List.set_cons_zero, List.set_cons_succ, i64_w, i32_w]
    rfl
  refine pure_ (i := 23) (N := some 140) (v := ?_) (a' := ?_) #[true, true, true, true, true, true, true, true, true, true, true, true, true, true, true, true, true, true, true, true, true, true, true, true, false, false, false, false, false, false] rfl rfl (by kernel_rfl) (fun _ _ _ h => h) (Or.inl ⟨by rfl, ?_⟩) ?_ ?_
  rotate_left
  · intro w'
    go_simp
    with_reducible rfl
  rotate_left
  · simp only [Act.put, List.setIfInBounds_toArray, List.set_cons_zero, List.set_cons_succ, i64_w, i32_w]
    rfl
  refine pure_ (i := 24) (N := some 141) (v := ?_) (a' := ?_) #[true, true, true, true, true, true, true, true, true, true, true, true, true, true, true, true, true, true, true, true, true, true, true, true, true, false, false, false, false, false] rfl rfl (by kernel_rfl) (fun _ _ _ h => h) (Or.inl ⟨by rfl, ?_⟩) ?_ ?_
  rotate_left
  · intro w'
    go_simp
    with_reducible rfl
  rotate_left
  · simp only [Act.put, List.setIfInBounds_toArray, List.set_cons_zero, List.set_cons_succ, i64_w, i32_w]
    rfl
  refine pure_ (i := 25) (N := some 142) (v := ?_) (a' := ?_) #[true, true, true, true, true, true, true, true, true, true, true, true, true, true, true, true, true, true, true, true, true, true, true, true, true, true, false, false, false, false] rfl rfl (by kernel_rfl) (fun _ _ _ h => h) (Or.inl ⟨by rfl, ?_⟩) ?_ ?_
  rotate_left
  · intro w'
    go_simp
    with_reducible rfl
  rotate_left
  · simp only [Act.put, List.setIfInBounds_toArray, List.set_cons_zero, List.set_cons_succ, i64_w, i32_w]
    rfl
  refine pure_ (i := 26) (N := some 143) (v := ?_) (a' := ?_) #[true, true, true, true, true, true, true, true, true, true, true, true, true, true, true, true, true, true, true, true, true, true, true, true, true, true, true, false, false, false] rfl rfl (by kernel_rfl) (fun _ _ _ h => h) (Or.inl ⟨by rfl, ?_⟩) ?_ ?_
  rotate_left
  · intro w'
    go_simp
    with_reducible rfl
  rotate_left
  · simp only [Act.put, List.setIfInBounds_toArray, List.set_cons_zero, List.set_cons_succ, i64_w, i32_w]
    rfl
  refine pure_ (i := 27) (N := some 144) (v := ?_) (a' := ?_) #[true, true, true, true, true, true, true, true, true, true, true, true, true, true, true, true, true, true, true, true, true, true, true, true, true, true, true, true, false, false] rfl rfl (by kernel_rfl) (fun _ _ _ h => h) (Or.inl ⟨by rfl, ?_⟩) ?_ ?_
  rotate_left
  · intro w'
    go_simp
    with_reducible rfl
  rotate_left
  · simp only [Act.put, List.setIfInBounds_toArray, List.set_cons_zero, List.set_cons_succ, i64_w, i32_w]
    rfl
  refine pure_ (i := 28) (N := some 145) (v := ?_) (a' := ?_) #[true, true, true, true, true, true, true, true, true, true, true, true, true, true, true, true, true, true, true, true, true, true, true, true, true, true, true, true, true, false] rfl rfl (by kernel_rfl) (fun _ _ _ h => h) (Or.inl ⟨by rfl, ?_⟩) ?_ ?_
  rotate_left
  · intro w'
    go_simp
    with_reducible rfl
  rotate_left
  · simp only [Act.put, List.setIfInBounds_toArray, List.set_cons_zero, List.set_cons_succ, i64_w, i32_w]
    rfl
  refine last_ (i := 29) (N := none) #[true, true, true, true, true, true, true, true, true, true, true, true, true, true, true, true, true, true, true, true, true, true, true, true, true, true, true, true, true, true] rfl rfl (by kernel_rfl) (by decide) (fun K hK => ?_)
  obtain ⟨p0, p1, p2, pf⟩ := box3 hHeld.2.out
  go_simp
  refine hK.out _ _ ?_
  clear hK K
  refine done_ (by kernel_rfl) ?_
  go_wp2_with fail
  refine bodyPost_ret (results_cell_row rfl _ _ w.heap.size 164 #[.int .i64 (b % 8 * 262144 + b1 % 64 * 4096 + b2 % 64 * 64 + b3 % 64), .int .i64 i, .int .i64 4] (0, 0) _ rfl (heap_alloc_new _ _) Try.underlying164 rfl (by kernel_rfl)) rfl ⟨by rw [hR.out]; rfl, ((Below.refl _ _).alloc (Nat.le_refl _) _).drew⟩
set_option maxHeartbeats 4000000 in
set_option maxRecDepth 100000 in
theorem one_e0c (s : ByteArray) (i : Nat) (w : World) (hi : i < s.size) (hs : s.size ≤ 140737488355328) (b : Int) (hb : (s[i].toNat : Int) = b) (lo0 : 0 ≤ b) (hi0 : b < 256) (h1 : 240 ≤ b) (h2 : b ≤ 244) (ea : (b == 240) = false) (eb : (b == 244) = false) (c1 : Q (contB s (i + 1) 128 191 = false)) (r : Int × Nat) (hR : Q (r = (-1, 1))) :
    Calls Try.prog 148 #[.string s, .int .i64 i] w fun e w' => e = .returned (.agg #[.int .i64 r.1, .int .i64 i, .int .i64 (r.2 : Nat)]) ∧ Below w.heap.size w w' := by
  have t1 : decide (b < 128) = false := by simp; omega
  have t2 : decide (194 ≤ b) = true := by simp; omega
  have t3 : decide (b ≤ 223) = false := by simp; omega
  have t4 : decide (224 ≤ b) = true := by simp; omega
  have t5 : decide (b ≤ 239) = false := by simp; omega
  have t6 : decide (240 ≤ b) = true := by simp; omega
  have t7 : decide (b ≤ 244) = true := by simp; omega
  go_enter Try.func148, Try.ntmps148
  go_wp2_with (go_at_call 150; with_reducible refine (cont_ref s (i + 1) 128 191 _ _ (by omega) (by omega)).mono ?_; rw [c1.out]; rintro e w2 ⟨rfl, rfl⟩)
  refine bodyPost_ret (results_cell_row rfl _ _ w.heap.size 164 #[.int .i64 (-1), .int .i64 i, .int .i64 1] (0, 0) _ rfl (heap_alloc_new _ _) Try.underlying164 rfl (by kernel_rfl)) rfl ⟨by rw [hR.out]; rfl, (Below.refl _ _).alloc (Nat.le_refl _) _⟩
set_option maxHeartbeats 4000000 in
set_option maxRecDepth 100000 in
theorem one_e1c (s : ByteArray) (i : Nat) (w : World) (hi : i < s.size) (hs : s.size ≤ 140737488355328) (b : Int) (hb : (s[i].toNat : Int) = b) (lo0 : 0 ≤ b) (hi0 : b < 256) (h1 : 240 ≤ b) (h2 : b ≤ 244) (ea : (b == 240) = false) (eb : (b == 244) = false) (c1 : Q (contB s (i + 1) 128 191 = true)) (c2 : Q (contB s (i + 2) 128 191 = false)) (r : Int × Nat) (hR : Q (r = (-1, 1))) :
    Calls Try.prog 148 #[.string s, .int .i64 i] w fun e w' => e = .returned (.agg #[.int .i64 r.1, .int .i64 i, .int .i64 (r.2 : Nat)]) ∧ Below w.heap.size w w' := by
  have t1 : decide (b < 128) = false := by simp; omega
  have t2 : decide (194 ≤ b) = true := by simp; omega
  have t3 : decide (b ≤ 223) = false := by simp; omega
  have t4 : decide (224 ≤ b) = true := by simp; omega
  have t5 : decide (b ≤ 239) = false := by simp; omega
  have t6 : decide (240 ≤ b) = true := by simp; omega
  have t7 : decide (b ≤ 244) = true := by simp; omega
  go_enter Try.func148, Try.ntmps148
  go_wp2_with (first | (go_at_call 150; with_reducible refine (cont_ref s (i + 1) 128 191 _ _ (by omega) (by omega)).mono ?_; rw [c1.out]; rintro e w2 ⟨rfl, rfl⟩) | (go_at_call 150; with_reducible refine (cont_ref s (i + 2) 128 191 _ _ (by omega) (by omega)).mono ?_; rw [c2.out]; rintro e w2 ⟨rfl, rfl⟩))
  refine bodyPost_ret (results_cell_row rfl _ _ w.heap.size 164 #[.int .i64 (-1), .int .i64 i, .int .i64 1] (0, 0) _ rfl (heap_alloc_new _ _) Try.underlying164 rfl (by kernel_rfl)) rfl ⟨by rw [hR.out]; rfl, (Below.refl _ _).alloc (Nat.le_refl _) _⟩
set_option maxHeartbeats 4000000 in
set_option maxRecDepth 100000 in
theorem one_e2c (s : ByteArray) (i : Nat) (w : World) (hi : i < s.size) (hs : s.size ≤ 140737488355328) (b : Int) (hb : (s[i].toNat : Int) = b) (lo0 : 0 ≤ b) (hi0 : b < 256) (h1 : 240 ≤ b) (h2 : b ≤ 244) (ea : (b == 240) = false) (eb : (b == 244) = false) (c1 : Q (contB s (i + 1) 128 191 = true)) (c2 : Q (contB s (i + 2) 128 191 = true)) (c3 : Q (contB s (i + 3) 128 191 = false)) (r : Int × Nat) (hR : Q (r = (-1, 1))) :
    Calls Try.prog 148 #[.string s, .int .i64 i] w fun e w' => e = .returned (.agg #[.int .i64 r.1, .int .i64 i, .int .i64 (r.2 : Nat)]) ∧ Below w.heap.size w w' := by
  have t1 : decide (b < 128) = false := by simp; omega
  have t2 : decide (194 ≤ b) = true := by simp; omega
  have t3 : decide (b ≤ 223) = false := by simp; omega
  have t4 : decide (224 ≤ b) = true := by simp; omega
  have t5 : decide (b ≤ 239) = false := by simp; omega
  have t6 : decide (240 ≤ b) = true := by simp; omega
  have t7 : decide (b ≤ 244) = true := by simp; omega
  go_enter Try.func148, Try.ntmps148
  go_wp2_with (first | (go_at_call 150; with_reducible refine (cont_ref s (i + 1) 128 191 _ _ (by omega) (by omega)).mono ?_; rw [c1.out]; rintro e w2 ⟨rfl, rfl⟩) | (go_at_call 150; with_reducible refine (cont_ref s (i + 2) 128 191 _ _ (by omega) (by omega)).mono ?_; rw [c2.out]; rintro e w2 ⟨rfl, rfl⟩) | (go_at_call 150; with_reducible refine (cont_ref s (i + 3) 128 191 _ _ (by omega) (by omega)).mono ?_; rw [c3.out]; rintro e w2 ⟨rfl, rfl⟩))
  refine bodyPost_ret (results_cell_row rfl _ _ w.heap.size 164 #[.int .i64 (-1), .int .i64 i, .int .i64 1] (0, 0) _ rfl (heap_alloc_new _ _) Try.underlying164 rfl (by kernel_rfl)) rfl ⟨by rw [hR.out]; rfl, (Below.refl _ _).alloc (Nat.le_refl _) _⟩
set_option maxHeartbeats 4000000 in
set_option maxRecDepth 100000 in
theorem one_e3c (s : ByteArray) (i : Nat) (w : World) (hi : i < s.size) (hs : s.size ≤ 140737488355328) (b : Int) (hb : (s[i].toNat : Int) = b) (lo0 : 0 ≤ b) (hi0 : b < 256) (h1 : 240 ≤ b) (h2 : b ≤ 244) (ea : (b == 240) = false) (eb : (b == 244) = false) (c1 : Q (contB s (i + 1) 128 191 = true)) (c2 : Q (contB s (i + 2) 128 191 = true)) (c3 : Q (contB s (i + 3) 128 191 = true)) (hi1 : i + 1 < s.size) (b1 : Int) (hb1 : ((s[i + 1]'hi1).toNat : Int) = b1) (l1 : 0 ≤ b1) (u1 : b1 < 256) (hi2 : i + 2 < s.size) (b2 : Int) (hb2 : ((s[i + 2]'hi2).toNat : Int) = b2) (l2 : 0 ≤ b2) (u2 : b2 < 256) (hi3 : i + 3 < s.size) (b3 : Int) (hb3 : ((s[i + 3]'hi3).toNat : Int) = b3) (l3 : 0 ≤ b3) (u3 : b3 < 256) (r : Int × Nat) (hR : Q (r = (b % 8 * 262144 + b1 % 64 * 4096 + b2 % 64 * 64 + b3 % 64, 4))) :
    Calls Try.prog 148 #[.string s, .int .i64 i] w fun e w' => e = .returned (.agg #[.int .i64 r.1, .int .i64 i, .int .i64 (r.2 : Nat)]) ∧ Below w.heap.size w w' := by
  have t1 : decide (b < 128) = false := by simp; omega
  have t2 : decide (194 ≤ b) = true := by simp; omega
  have t3 : decide (b ≤ 223) = false := by simp; omega
  have t4 : decide (224 ≤ b) = true := by simp; omega
  have t5 : decide (b ≤ 239) = false := by simp; omega
  have t6 : decide (240 ≤ b) = true := by simp; omega
  have t7 : decide (b ≤ 244) = true := by simp; omega
  have hs2 : s.size < 4611686018427387904 := by omega
  have Q10 : Q ((0 : Int) ≤ (i : Int) + 1) := ⟨by omega⟩
  have Q11 : Q ((i : Int) + 1 < (s.size : Int)) := ⟨by omega⟩
  have Q12 : Q (((i : Int) + 1).toNat = i + 1) := ⟨by omega⟩
  have Q20 : Q ((0 : Int) ≤ (i : Int) + 2) := ⟨by omega⟩
  have Q21 : Q ((i : Int) + 2 < (s.size : Int)) := ⟨by omega⟩
  have Q22 : Q (((i : Int) + 2).toNat = i + 2) := ⟨by omega⟩
  have Q30 : Q ((0 : Int) ≤ (i : Int) + 3) := ⟨by omega⟩
  have Q31 : Q ((i : Int) + 3 < (s.size : Int)) := ⟨by omega⟩
  have Q32 : Q (((i : Int) + 3).toNat = i + 3) := ⟨by omega⟩
  have V0 : Q (wrap64 ((i : Int) + 1) = (i : Int) + 1) := ⟨IntWalk.wrap64_in _ (by omega)⟩
  have V1 : Q (wrap64 ((i : Int) + 2) = (i : Int) + 2) := ⟨IntWalk.wrap64_in _ (by omega)⟩
  have V2 : Q (wrap64 ((i : Int) + 3) = (i : Int) + 3) := ⟨IntWalk.wrap64_in _ (by omega)⟩
  have V3 : Q (wrap64 (b % 8) = b % 8) := ⟨IntWalk.wrap64_in _ (by omega)⟩
  have V4 : Q (wrap64 (b1 % 64) = b1 % 64) := ⟨IntWalk.wrap64_in _ (by omega)⟩
  have V5 : Q (wrap64 (b2 % 64) = b2 % 64) := ⟨IntWalk.wrap64_in _ (by omega)⟩
  have V6 : Q (wrap64 (b3 % 64) = b3 % 64) := ⟨IntWalk.wrap64_in _ (by omega)⟩
  have V7 : Q (wrap64 (b % 8 * 262144) = b % 8 * 262144) := ⟨IntWalk.wrap64_in _ (by omega)⟩
  have V8 : Q (wrap64 (b1 % 64 * 4096) = b1 % 64 * 4096) := ⟨IntWalk.wrap64_in _ (by omega)⟩
  have V9 : Q (wrap64 (b2 % 64 * 64) = b2 % 64 * 64) := ⟨IntWalk.wrap64_in _ (by omega)⟩
  have G0 := Q.mk (heap_alloc_new w (.cells #[.int .i64 0, .int .i64 0, .int .i64 0] 164))
  have BB : Below w.heap.size w (w.alloc (.cells #[.int .i64 0, .int .i64 0, .int .i64 0] 164)) := (Below.refl _ _).alloc (Nat.le_refl _) _
  replace BB := Q.mk BB
  have j1 := u8_and7 b lo0 hi0
  have j2 := u8_and63 b1 l1 u1
  have j3 := u8_and63 b2 l2 u2
  have j4 := u8_and63 b3 l3 u3
  have m1 : 0 ≤ b % 8 := by omega
  have m2 : b % 8 < 8 := by omega
  have m3 : 0 ≤ b1 % 64 := by omega
  have m4 : b1 % 64 < 64 := by omega
  have m5 : 0 ≤ b2 % 64 := by omega
  have m6 : b2 % 64 < 64 := by omega
  have m7 : 0 ≤ b3 % 64 := by omega
  have m8 : b3 % 64 < 64 := by omega
  have j5 := i64_or 18 (b % 8 * 262144) (b1 % 64 * 4096) (by omega) (by omega) (by omega) (by omega) (by omega) (by omega) (by omega)
  have j6 := i64_or 12 (b % 8 * 262144 + b1 % 64 * 4096) (b2 % 64 * 64) (by omega) (by omega) (by omega) (by omega) (by omega) (by omega) (by omega)
  have j7 := i64_or 6 (b % 8 * 262144 + b1 % 64 * 4096 + b2 % 64 * 64) (b3 % 64) (by omega) (by omega) (by omega) (by omega) (by omega) (by omega) (by omega)
  go_enter Try.func148, Try.ntmps148
  go_wp2_with (first | (go_at_call 150; with_reducible refine (cont_ref s (i + 1) 128 191 _ _ (by omega) (by omega)).mono ?_; rw [c1.out]; rintro e w2 ⟨rfl, rfl⟩) | (go_at_call 150; with_reducible refine (cont_ref s (i + 2) 128 191 _ _ (by omega) (by omega)).mono ?_; rw [c2.out]; rintro e w2 ⟨rfl, rfl⟩) | (go_at_call 150; with_reducible refine (cont_ref s (i + 3) 128 191 _ _ (by omega) (by omega)).mono ?_; rw [c3.out]; rintro e w2 ⟨rfl, rfl⟩))
  have q10 := Q10.out
  have q11 := Q11.out
  have q12 := Q12.out
  have q20 := Q20.out
  have q21 := Q21.out
  have q22 := Q22.out
  have q30 := Q30.out
  have q31 := Q31.out
  have q32 := Q32.out
  have v0 := V0.out
  have v1 := V1.out
  have v2 := V2.out
  have v3 := V3.out
  have v4 := V4.out
  have v5 := V5.out
  have v6 := V6.out
  have v7 := V7.out
  have v8 := V8.out
  have v9 := V9.out
  refine start_ (n := 30) (S := fun w' => Q (Below w.heap.size w w') ∧ Q (w'.heap[w.heap.size]? = some (.cells #[.int .i64 0, .int .i64 0, .int .i64 0] 164 (0, 0)))) (ds := [29]) #[false, false, false, false, false, false, false, false, false, false, false, false, false, false, false, false, false, false, false, false, false, false, false, false, false, false, false, false, false, false] (by kernel_rfl) rfl rfl ⟨⟨BB.out.drew⟩, ⟨G0.out⟩⟩ (fun hHeld => ?_)
  refine pure_ (i := 0) (N := some 117) (v := ?_) (a' := ?_) #[true, false, false, false, false, false, false, false, false, false, false, false, false, false, false, false, false, false, false, false, false, false, false, false, false, false, false, false, false, false] rfl rfl (by kernel_rfl) (fun _ _ _ h => h) (Or.inl ⟨by rfl, ?_⟩) ?_ ?_
  rotate_left
  · intro w'
    go_simp
    with_reducible rfl
  rotate_left
  · simp only [Act.put, List.setIfInBounds_toArray, List.set_cons_zero, List.set_cons_succ, i64_w, i32_w]
    rfl
  refine pure_ (i := 1) (N := some 118) (v := ?_) (a' := ?_) #[true, true, false, false, false, false, false, false, false, false, false, false, false, false, false, false, false, false, false, false, false, false, false, false, false, false, false, false, false, false] rfl rfl (by kernel_rfl) (fun _ _ _ h => h) (Or.inl ⟨by rfl, ?_⟩) ?_ ?_
  rotate_left
  · intro w'
    go_simp
    with_reducible rfl
  rotate_left
  · simp only [Act.put, List.setIfInBounds_toArray, List.set_cons_zero, List.set_cons_succ, i64_w, i32_w]
    rfl
  refine pure_ (i := 2) (N := some 119) (v := ?_) (a' := ?_) #[true, true, true, false, false, false, false, false, false, false, false, false, false, false, false, false, false, false, false, false, false, false, false, false, false, false, false, false, false, false] rfl rfl (by kernel_rfl) (fun _ _ _ h => h) (Or.inl ⟨by rfl, ?_⟩) ?_ ?_
  rotate_left
  · intro w'
    go_simp
    with_reducible rfl
  rotate_left
  · simp only [Act.put, List.setIfInBounds_toArray, List.set_cons_zero, List.set_cons_succ, i64_w, i32_w]
    rfl
  refine pure_ (i := 3) (N := some 120) (v := ?_) (a' := ?_) #[true, true, true, true, false, false, false, false, false, false, false, false, false, false, false, false, false, false, false, false, false, false, false, false, false, false, false, false, false, false] rfl rfl (by kernel_rfl) (fun _ _ _ h => h) (Or.inl ⟨by rfl, ?_⟩) ?_ ?_
  rotate_left
  · intro w'
    go_simp
    with_reducible rfl
  rotate_left
  · simp only [Act.put, List.setIfInBounds_toArray, List.set_cons_zero, List.set_cons_succ, i64_w, i32_w]
    rfl
  refine pure_ (i := 4) (N := some 121) (v := ?_) (a' := ?_) #[true, true, true, true, true, false, false, false, false, false, false, false, false, false, false, false, false, false, false, false, false, false, false, false, false, false, false, false, false, false] rfl rfl (by kernel_rfl) (fun _ _ _ h => h) (Or.inl ⟨by rfl, ?_⟩) ?_ ?_
  rotate_left
  · intro w'
    go_simp
    with_reducible rfl
  rotate_left
  · simp only [Act.put, List.setIfInBounds_toArray, List.set_cons_zero, List.set_cons_succ, i64_w, i32_w]
    rfl
  refine pure_ (i := 5) (N := some 122) (v := ?_) (a' := ?_) #[true, true, true, true, true, true, false, false, false, false, false, false, false, false, false, false, false, false, false, false, false, false, false, false, false, false, false, false, false, false] rfl rfl (by kernel_rfl) (fun _ _ _ h => h) (Or.inl ⟨by rfl, ?_⟩) ?_ ?_
  rotate_left
  · intro w'
    go_simp
    with_reducible rfl
  rotate_left
  · simp only [Act.put, List.setIfInBounds_toArray, List.set_cons_zero, List.set_cons_succ, i64_w, i32_w]
    rfl
  refine pure_ (i := 6) (N := some 123) (v := ?_) (a' := ?_) #[true, true, true, true, true, true, true, false, false, false, false, false, false, false, false, false, false, false, false, false, false, false, false, false, false, false, false, false, false, false] rfl rfl (by kernel_rfl) (fun _ _ _ h => h) (Or.inl ⟨by rfl, ?_⟩) ?_ ?_
  rotate_left
  · intro w'
    go_simp
    with_reducible rfl
  rotate_left
  · simp only [Act.put, List.setIfInBounds_toArray, List.set_cons_zero, List.set_cons_succ, i64_w, i32_w]
    rfl
  refine pure_ (i := 7) (N := some 124) (v := ?_) (a' := ?_) #[true, true, true, true, true, true, true, true, false, false, false, false, false, false, false, false, false, false, false, false, false, false, false, false, false, false, false, false, false, false] rfl rfl (by kernel_rfl) (fun _ _ _ h => h) (Or.inl ⟨by rfl, ?_⟩) ?_ ?_
  rotate_left
  · intro w'
    go_simp
    with_reducible rfl
  rotate_left
  · simp only [Act.put, List.setIfInBounds_toArray, List.set_cons_zero, List.set_cons_succ, i64_w, i32_w]
    rfl
  refine pure_ (i := 8) (N := some 125) (v := ?_) (a' := ?_) #[true, true, true, true, true, true, true, true, true, false, false, false, false, false, false, false, false, false, false, false, false, false, false, false, false, false, false, false, false, false] rfl rfl (by kernel_rfl) (fun _ _ _ h => h) (Or.inl ⟨by rfl, ?_⟩) ?_ ?_
  rotate_left
  · intro w'
    go_simp
    with_reducible rfl
  rotate_left
  · simp only [Act.put, List.setIfInBounds_toArray, List.set_cons_zero, List.set_cons_succ, i64_w, i32_w]
    rfl
  refine pure_ (i := 9) (N := some 126) (v := ?_) (a' := ?_) #[true, true, true, true, true, true, true, true, true, true, false, false, false, false, false, false, false, false, false, false, false, false, false, false, false, false, false, false, false, false] rfl rfl (by kernel_rfl) (fun _ _ _ h => h) (Or.inl ⟨by rfl, ?_⟩) ?_ ?_
  rotate_left
  · intro w'
    go_simp
    with_reducible rfl
  rotate_left
  · simp only [Act.put, List.setIfInBounds_toArray, List.set_cons_zero, List.set_cons_succ, i64_w, i32_w]
    rfl
  refine pure_ (i := 10) (N := some 127) (v := ?_) (a' := ?_) #[true, true, true, true, true, true, true, true, true, true, true, false, false, false, false, false, false, false, false, false, false, false, false, false, false, false, false, false, false, false] rfl rfl (by kernel_rfl) (fun _ _ _ h => h) (Or.inl ⟨by rfl, ?_⟩) ?_ ?_
  rotate_left
  · intro w'
    go_simp
    with_reducible rfl
  rotate_left
  · simp only [Act.put, List.setIfInBounds_toArray, List.set_cons_zero, List.set_cons_succ, i64_w, i32_w]
    rfl
  refine pure_ (i := 11) (N := some 128) (v := ?_) (a' := ?_) #[true, true, true, true, true, true, true, true, true, true, true, true, false, false, false, false, false, false, false, false, false, false, false, false, false, false, false, false, false, false] rfl rfl (by kernel_rfl) (fun _ _ _ h => h) (Or.inl ⟨by rfl, ?_⟩) ?_ ?_
  rotate_left
  · intro w'
    go_simp
    with_reducible rfl
  rotate_left
  · simp only [Act.put, List.setIfInBounds_toArray, List.set_cons_zero, List.set_cons_succ, i64_w, i32_w]
    rfl
  refine pure_ (i := 12) (N := some 129) (v := ?_) (a' := ?_) #[true, true, true, true, true, true, true, true, true, true, true, true, true, false, false, false, false, false, false, false, false, false, false, false, false, false, false, false, false, false] rfl rfl (by kernel_rfl) (fun _ _ _ h => h) (Or.inl ⟨by rfl, ?_⟩) ?_ ?_
  rotate_left
  · intro w'
    go_simp
    with_reducible rfl
  rotate_left
  · simp only [Act.put, List.setIfInBounds_toArray, List.set_cons_zero, List.set_cons_succ, i64_w, i32_w]
    rfl
  refine pure_ (i := 13) (N := some 130) (v := ?_) (a' := ?_) #[true, true, true, true, true, true, true, true, true, true, true, true, true, true, false, false, false, false, false, false, false, false, false, false, false, false, false, false, false, false] rfl rfl (by kernel_rfl) (fun _ _ _ h => h) (Or.inl ⟨by rfl, ?_⟩) ?_ ?_
  rotate_left
  · intro w'
    go_simp
    with_reducible rfl
  rotate_left
  · simp only [Act.put, List.setIfInBounds_toArray, List.set_cons_zero, List.set_cons_succ, i64_w, i32_w]
    rfl
  refine pure_ (i := 14) (N := some 131) (v := ?_) (a' := ?_) #[true, true, true, true, true, true, true, true, true, true, true, true, true, true, true, false, false, false, false, false, false, false, false, false, false, false, false, false, false, false] rfl rfl (by kernel_rfl) (fun _ _ _ h => h) (Or.inl ⟨by rfl, ?_⟩) ?_ ?_
  rotate_left
  · intro w'
    go_simp
    with_reducible rfl
  rotate_left
  · simp only [Act.put, List.setIfInBounds_toArray, List.set_cons_zero, List.set_cons_succ, i64_w, i32_w]
    rfl
  refine pure_ (i := 15) (N := some 132) (v := ?_) (a' := ?_) #[true, true, true, true, true, true, true, true, true, true, true, true, true, true, true, true, false, false, false, false, false, false, false, false, false, false, false, false, false, false] rfl rfl (by kernel_rfl) (fun _ _ _ h => h) (Or.inl ⟨by rfl, ?_⟩) ?_ ?_
  rotate_left
  · intro w'
    go_simp
    with_reducible rfl
  rotate_left
  · simp only [Act.put, List.setIfInBounds_toArray, List.set_cons_zero, List.set_cons_succ, i64_w, i32_w]
    rfl
  refine pure_ (i := 16) (N := some 133) (v := ?_) (a' := ?_) #[true, true, true, true, true, true, true, true, true, true, true, true, true, true, true, true, true, false, false, false, false, false, false, false, false, false, false, false, false, false] rfl rfl (by kernel_rfl) (fun _ _ _ h => h) (Or.inl ⟨by rfl, ?_⟩) ?_ ?_
  rotate_left
  · intro w'
    go_simp
    with_reducible rfl
  rotate_left
  · simp only [Act.put, List.setIfInBounds_toArray, List.set_cons_zero, List.set_cons_succ, i64_w, i32_w]
    rfl
  refine pure_ (i := 17) (N := some 134) (v := ?_) (a' := ?_) #[true, true, true, true, true, true, true, true, true, true, true, true, true, true, true, true, true, true, false, false, false, false, false, false, false, false, false, false, false, false] rfl rfl (by kernel_rfl) (fun _ _ _ h => h) (Or.inl ⟨by rfl, ?_⟩) ?_ ?_
  rotate_left
  · intro w'
    go_simp
    with_reducible rfl
  rotate_left
  · simp only [Act.put, List.setIfInBounds_toArray, List.set_cons_zero, List.set_cons_succ, i64_w, i32_w]
    rfl
  refine pure_ (i := 18) (N := some 135) (v := ?_) (a' := ?_) #[true, true, true, true, true, true, true, true, true, true, true, true, true, true, true, true, true, true, true, false, false, false, false, false, false, false, false, false, false, false] rfl rfl (by kernel_rfl) (fun _ _ _ h => h) (Or.inl ⟨by rfl, ?_⟩) ?_ ?_
  rotate_left
  · intro w'
    go_simp
    with_reducible rfl
  rotate_left
  · simp only [Act.put, List.setIfInBounds_toArray, List.set_cons_zero, List.set_cons_succ, i64_w, i32_w]
    rfl
  refine pure_ (i := 19) (N := some 136) (v := ?_) (a' := ?_) #[true, true, true, true, true, true, true, true, true, true, true, true, true, true, true, true, true, true, true, true, false, false, false, false, false, false, false, false, false, false] rfl rfl (by kernel_rfl) (fun _ _ _ h => h) (Or.inl ⟨by rfl, ?_⟩) ?_ ?_
  rotate_left
  · intro w'
    go_simp
    with_reducible rfl
  rotate_left
  · simp only [Act.put, List.setIfInBounds_toArray, List.set_cons_zero, List.set_cons_succ, i64_w, i32_w]
    rfl
  refine pure_ (i := 20) (N := some 137) (v := ?_) (a' := ?_) #[true, true, true, true, true, true, true, true, true, true, true, true, true, true, true, true, true, true, true, true, true, false, false, false, false, false, false, false, false, false] rfl rfl (by kernel_rfl) (fun _ _ _ h => h) (Or.inl ⟨by rfl, ?_⟩) ?_ ?_
  rotate_left
  · intro w'
    go_simp
    with_reducible rfl
  rotate_left
  · simp only [Act.put, List.setIfInBounds_toArray, List.set_cons_zero, List.set_cons_succ, i64_w, i32_w]
    rfl
  refine pure_ (i := 21) (N := some 138) (v := ?_) (a' := ?_) #[true, true, true, true, true, true, true, true, true, true, true, true, true, true, true, true, true, true, true, true, true, true, false, false, false, false, false, false, false, false] rfl rfl (by kernel_rfl) (fun _ _ _ h => h) (Or.inl ⟨by rfl, ?_⟩) ?_ ?_
  rotate_left
  · intro w'
    go_simp
    with_reducible rfl
  rotate_left
  · simp only [Act.put, List.setIfInBounds_toArray, List.set_cons_zero, List.set_cons_succ, i64_w, i32_w]
    rfl
  refine pure_ (i := 22) (N := some 139) (v := ?_) (a' := ?_) #[true, true, true, true, true, true, true, true, true, true, true, true, true, true, true, true, true, true, true, true, true, true, true, false, false, false, false, false, false, false] rfl rfl (by kernel_rfl) (fun _ _ _ h => h) (Or.inl ⟨by rfl, ?_⟩) ?_ ?_
  rotate_left
  · intro w'
    go_simp
    with_reducible rfl
  rotate_left
  · simp only [Act.put, List.setIfInBounds_toArray, List.set_cons_zero, List.set_cons_succ, i64_w, i32_w]
    rfl
  refine pure_ (i := 23) (N := some 140) (v := ?_) (a' := ?_) #[true, true, true, true, true, true, true, true, true, true, true, true, true, true, true, true, true, true, true, true, true, true, true, true, false, false, false, false, false, false] rfl rfl (by kernel_rfl) (fun _ _ _ h => h) (Or.inl ⟨by rfl, ?_⟩) ?_ ?_
  rotate_left
  · intro w'
    go_simp
    with_reducible rfl
  rotate_left
  · simp only [Act.put, List.setIfInBounds_toArray, List.set_cons_zero, List.set_cons_succ, i64_w, i32_w]
    rfl
  refine pure_ (i := 24) (N := some 141) (v := ?_) (a' := ?_) #[true, true, true, true, true, true, true, true, true, true, true, true, true, true, true, true, true, true, true, true, true, true, true, true, true, false, false, false, false, false] rfl rfl (by kernel_rfl) (fun _ _ _ h => h) (Or.inl ⟨by rfl, ?_⟩) ?_ ?_
  rotate_left
  · intro w'
    go_simp
    with_reducible rfl
  rotate_left
  · simp only [Act.put, List.setIfInBounds_toArray, List.set_cons_zero, List.set_cons_succ, i64_w, i32_w]
    rfl
  refine pure_ (i := 25) (N := some 142) (v := ?_) (a' := ?_) #[true, true, true, true, true, true, true, true, true, true, true, true, true, true, true, true, true, true, true, true, true, true, true, true, true, true, false, false, false, false] rfl rfl (by kernel_rfl) (fun _ _ _ h => h) (Or.inl ⟨by rfl, ?_⟩) ?_ ?_
  rotate_left
  · intro w'
    go_simp
    with_reducible rfl
  rotate_left
  · simp only [Act.put, List.setIfInBounds_toArray, List.set_cons_zero, List.set_cons_succ, i64_w, i32_w]
    rfl
  refine pure_ (i := 26) (N := some 143) (v := ?_) (a' := ?_) #[true, true, true, true, true, true, true, true, true, true, true, true, true, true, true, true, true, true, true, true, true, true, true, true, true, true, true, false, false, false] rfl rfl (by kernel_rfl) (fun _ _ _ h => h) (Or.inl ⟨by rfl, ?_⟩) ?_ ?_
  rotate_left
  · intro w'
    go_simp
    with_reducible rfl
  rotate_left
  · simp only [Act.put, List.setIfInBounds_toArray, List.set_cons_zero, List.set_cons_succ, i64_w, i32_w]
    rfl
  refine pure_ (i := 27) (N := some 144) (v := ?_) (a' := ?_) #[true, true, true, true, true, true, true, true, true, true, true, true, true, true, true, true, true, true, true, true, true, true, true, true, true, true, true, true, false, false] rfl rfl (by kernel_rfl) (fun _ _ _ h => h) (Or.inl ⟨by rfl, ?_⟩) ?_ ?_
  rotate_left
  · intro w'
    go_simp
    with_reducible rfl
  rotate_left
  · simp only [Act.put, List.setIfInBounds_toArray, List.set_cons_zero, List.set_cons_succ, i64_w, i32_w]
    rfl
  refine pure_ (i := 28) (N := some 145) (v := ?_) (a' := ?_) #[true, true, true, true, true, true, true, true, true, true, true, true, true, true, true, true, true, true, true, true, true, true, true, true, true, true, true, true, true, false] rfl rfl (by kernel_rfl) (fun _ _ _ h => h) (Or.inl ⟨by rfl, ?_⟩) ?_ ?_
  rotate_left
  · intro w'
    go_simp
    with_reducible rfl
  rotate_left
  · simp only [Act.put, List.setIfInBounds_toArray, List.set_cons_zero, List.set_cons_succ, i64_w, i32_w]
    rfl
  refine last_ (i := 29) (N := none) #[true, true, true, true, true, true, true, true, true, true, true, true, true, true, true, true, true, true, true, true, true, true, true, true, true, true, true, true, true, true] rfl rfl (by kernel_rfl) (by decide) (fun K hK => ?_)
  obtain ⟨p0, p1, p2, pf⟩ := box3 hHeld.2.out
  go_simp
  refine hK.out _ _ ?_
  clear hK K
  refine done_ (by kernel_rfl) ?_
  go_wp2_with fail
  refine bodyPost_ret (results_cell_row rfl _ _ w.heap.size 164 #[.int .i64 (b % 8 * 262144 + b1 % 64 * 4096 + b2 % 64 * 64 + b3 % 64), .int .i64 i, .int .i64 4] (0, 0) _ rfl (heap_alloc_new _ _) Try.underlying164 rfl (by kernel_rfl)) rfl ⟨by rw [hR.out]; rfl, ((Below.refl _ _).alloc (Nat.le_refl _) _).drew⟩
theorem d_any (s : ByteArray) (i : Nat) (w : World) (hi_ : i < s.size) (hs : s.size ≤ 140737488355328) (b : Int) (hb : (s[i].toNat : Int) = b) (lo0 : 0 ≤ b) (hi0 : b < 256) (h1 : 224 ≤ b) (h2 : b ≤ 239) (lo hi : Int) (r : Int × Nat) (hr : r = if contB s (i + 1) lo hi = true ∧ contB s (i + 2) 128 191 = true then (b % 16 * 4096 + bN s (i + 1) % 64 * 64 + bN s (i + 2) % 64, 3) else (-1, 1))
    (hc : (b = 224 ∧ lo = 160 ∧ hi = 191) ∨ (b = 237 ∧ lo = 128 ∧ hi = 159) ∨ (¬ b = 224 ∧ ¬ b = 237 ∧ lo = 128 ∧ hi = 191)) : (Calls Try.prog 148 #[.string s, .int .i64 i] w fun e w' => e = .returned (.agg #[.int .i64 r.1, .int .i64 i, .int .i64 (r.2 : Nat)]) ∧ Below w.heap.size w w') := by
  rcases hc with ⟨hx, rfl, rfl⟩ | ⟨hx, rfl, rfl⟩ | ⟨hx, hy, rfl, rfl⟩
  · cases c1 : contB s (i + 1) 160 191
    · exact one_d0a s i w hi_ hs b hb lo0 hi0 h1 h2 (by simp [hx]) (by simp [hx]) ⟨c1⟩ r ⟨by rw [hr, c1]; simp⟩
    cases c2 : contB s (i + 2) 128 191
    · exact one_d1a s i w hi_ hs b hb lo0 hi0 h1 h2 (by simp [hx]) (by simp [hx]) ⟨c1⟩ ⟨c2⟩ r ⟨by rw [hr, c1, c2]; simp⟩
    exact one_d2a s i w hi_ hs b hb lo0 hi0 h1 h2 (by simp [hx]) (by simp [hx]) ⟨c1⟩ ⟨c2⟩ (contB_lt c1) _ (bN_at s _ (contB_lt c1)) (bN_lo _ _) (bN_hi _ _) (contB_lt c2) _ (bN_at s _ (contB_lt c2)) (bN_lo _ _) (bN_hi _ _) r ⟨by rw [hr, c1, c2]; simp⟩
  · cases c1 : contB s (i + 1) 128 159
    · exact one_d0b s i w hi_ hs b hb lo0 hi0 h1 h2 (by simp [hx]) (by simp [hx]) ⟨c1⟩ r ⟨by rw [hr, c1]; simp⟩
    cases c2 : contB s (i + 2) 128 191
    · exact one_d1b s i w hi_ hs b hb lo0 hi0 h1 h2 (by simp [hx]) (by simp [hx]) ⟨c1⟩ ⟨c2⟩ r ⟨by rw [hr, c1, c2]; simp⟩
    exact one_d2b s i w hi_ hs b hb lo0 hi0 h1 h2 (by simp [hx]) (by simp [hx]) ⟨c1⟩ ⟨c2⟩ (contB_lt c1) _ (bN_at s _ (contB_lt c1)) (bN_lo _ _) (bN_hi _ _) (contB_lt c2) _ (bN_at s _ (contB_lt c2)) (bN_lo _ _) (bN_hi _ _) r ⟨by rw [hr, c1, c2]; simp⟩
  · cases c1 : contB s (i + 1) 128 191
    · exact one_d0c s i w hi_ hs b hb lo0 hi0 h1 h2 (by simp [hx]) (by simp [hy]) ⟨c1⟩ r ⟨by rw [hr, c1]; simp⟩
    cases c2 : contB s (i + 2) 128 191
    · exact one_d1c s i w hi_ hs b hb lo0 hi0 h1 h2 (by simp [hx]) (by simp [hy]) ⟨c1⟩ ⟨c2⟩ r ⟨by rw [hr, c1, c2]; simp⟩
    exact one_d2c s i w hi_ hs b hb lo0 hi0 h1 h2 (by simp [hx]) (by simp [hy]) ⟨c1⟩ ⟨c2⟩ (contB_lt c1) _ (bN_at s _ (contB_lt c1)) (bN_lo _ _) (bN_hi _ _) (contB_lt c2) _ (bN_at s _ (contB_lt c2)) (bN_lo _ _) (bN_hi _ _) r ⟨by rw [hr, c1, c2]; simp⟩
theorem e_any (s : ByteArray) (i : Nat) (w : World) (hi_ : i < s.size) (hs : s.size ≤ 140737488355328) (b : Int) (hb : (s[i].toNat : Int) = b) (lo0 : 0 ≤ b) (hi0 : b < 256) (h1 : 240 ≤ b) (h2 : b ≤ 244) (lo hi : Int) (r : Int × Nat) (hr : r = if contB s (i + 1) lo hi = true ∧ contB s (i + 2) 128 191 = true ∧ contB s (i + 3) 128 191 = true then (b % 8 * 262144 + bN s (i + 1) % 64 * 4096 + bN s (i + 2) % 64 * 64 + bN s (i + 3) % 64, 4) else (-1, 1))
    (hc : (b = 240 ∧ lo = 144 ∧ hi = 191) ∨ (b = 244 ∧ lo = 128 ∧ hi = 143) ∨ (¬ b = 240 ∧ ¬ b = 244 ∧ lo = 128 ∧ hi = 191)) : (Calls Try.prog 148 #[.string s, .int .i64 i] w fun e w' => e = .returned (.agg #[.int .i64 r.1, .int .i64 i, .int .i64 (r.2 : Nat)]) ∧ Below w.heap.size w w') := by
  rcases hc with ⟨hx, rfl, rfl⟩ | ⟨hx, rfl, rfl⟩ | ⟨hx, hy, rfl, rfl⟩
  · cases c1 : contB s (i + 1) 144 191
    · exact one_e0a s i w hi_ hs b hb lo0 hi0 h1 h2 (by simp [hx]) (by simp [hx]) ⟨c1⟩ r ⟨by rw [hr, c1]; simp⟩
    cases c2 : contB s (i + 2) 128 191
    · exact one_e1a s i w hi_ hs b hb lo0 hi0 h1 h2 (by simp [hx]) (by simp [hx]) ⟨c1⟩ ⟨c2⟩ r ⟨by rw [hr, c1, c2]; simp⟩
    cases c3 : contB s (i + 3) 128 191
    · exact one_e2a s i w hi_ hs b hb lo0 hi0 h1 h2 (by simp [hx]) (by simp [hx]) ⟨c1⟩ ⟨c2⟩ ⟨c3⟩ r ⟨by rw [hr, c1, c2, c3]; simp⟩
    exact one_e3a s i w hi_ hs b hb lo0 hi0 h1 h2 (by simp [hx]) (by simp [hx]) ⟨c1⟩ ⟨c2⟩ ⟨c3⟩ (contB_lt c1) _ (bN_at s _ (contB_lt c1)) (bN_lo _ _) (bN_hi _ _) (contB_lt c2) _ (bN_at s _ (contB_lt c2)) (bN_lo _ _) (bN_hi _ _) (contB_lt c3) _ (bN_at s _ (contB_lt c3)) (bN_lo _ _) (bN_hi _ _) r ⟨by rw [hr, c1, c2, c3]; simp⟩
  · cases c1 : contB s (i + 1) 128 143
    · exact one_e0b s i w hi_ hs b hb lo0 hi0 h1 h2 (by simp [hx]) (by simp [hx]) ⟨c1⟩ r ⟨by rw [hr, c1]; simp⟩
    cases c2 : contB s (i + 2) 128 191
    · exact one_e1b s i w hi_ hs b hb lo0 hi0 h1 h2 (by simp [hx]) (by simp [hx]) ⟨c1⟩ ⟨c2⟩ r ⟨by rw [hr, c1, c2]; simp⟩
    cases c3 : contB s (i + 3) 128 191
    · exact one_e2b s i w hi_ hs b hb lo0 hi0 h1 h2 (by simp [hx]) (by simp [hx]) ⟨c1⟩ ⟨c2⟩ ⟨c3⟩ r ⟨by rw [hr, c1, c2, c3]; simp⟩
    exact one_e3b s i w hi_ hs b hb lo0 hi0 h1 h2 (by simp [hx]) (by simp [hx]) ⟨c1⟩ ⟨c2⟩ ⟨c3⟩ (contB_lt c1) _ (bN_at s _ (contB_lt c1)) (bN_lo _ _) (bN_hi _ _) (contB_lt c2) _ (bN_at s _ (contB_lt c2)) (bN_lo _ _) (bN_hi _ _) (contB_lt c3) _ (bN_at s _ (contB_lt c3)) (bN_lo _ _) (bN_hi _ _) r ⟨by rw [hr, c1, c2, c3]; simp⟩
  · cases c1 : contB s (i + 1) 128 191
    · exact one_e0c s i w hi_ hs b hb lo0 hi0 h1 h2 (by simp [hx]) (by simp [hy]) ⟨c1⟩ r ⟨by rw [hr, c1]; simp⟩
    cases c2 : contB s (i + 2) 128 191
    · exact one_e1c s i w hi_ hs b hb lo0 hi0 h1 h2 (by simp [hx]) (by simp [hy]) ⟨c1⟩ ⟨c2⟩ r ⟨by rw [hr, c1, c2]; simp⟩
    cases c3 : contB s (i + 3) 128 191
    · exact one_e2c s i w hi_ hs b hb lo0 hi0 h1 h2 (by simp [hx]) (by simp [hy]) ⟨c1⟩ ⟨c2⟩ ⟨c3⟩ r ⟨by rw [hr, c1, c2, c3]; simp⟩
    exact one_e3c s i w hi_ hs b hb lo0 hi0 h1 h2 (by simp [hx]) (by simp [hy]) ⟨c1⟩ ⟨c2⟩ ⟨c3⟩ (contB_lt c1) _ (bN_at s _ (contB_lt c1)) (bN_lo _ _) (bN_hi _ _) (contB_lt c2) _ (bN_at s _ (contB_lt c2)) (bN_lo _ _) (bN_hi _ _) (contB_lt c3) _ (bN_at s _ (contB_lt c3)) (bN_lo _ _) (bN_hi _ _) r ⟨by rw [hr, c1, c2, c3]; simp⟩
set_option maxRecDepth 100000 in
theorem one_ref (s : ByteArray) (i : Nat) (w : World) (hi : i < s.size) (hs : s.size ≤ 140737488355328) :
    Calls Try.prog 148 #[.string s, .int .i64 i] w fun e w' => e = .returned (.agg #[.int .i64 (oneR s i).1, .int .i64 i, .int .i64 ((oneR s i).2 : Nat)]) ∧ Below w.heap.size w w' := by
  obtain ⟨r, hr⟩ : ∃ r, r = oneR s i := ⟨_, rfl⟩
  rw [← hr]
  rw [oneR] at hr
  have hb := bN_at s i hi
  have lo0 := bN_lo s i
  have hi0 := bN_hi s i
  by_cases h1 : bN s i < 128
  · exact one_a s i w hi hs _ hb lo0 hi0 h1 r ⟨by rw [hr, if_pos h1]⟩
  rw [if_neg h1] at hr
  by_cases h2 : 194 ≤ bN s i ∧ bN s i ≤ 223
  · rw [if_pos h2] at hr
    cases c1 : contB s (i + 1) 128 191
    · exact one_c0 s i w hi hs _ hb lo0 hi0 h2.1 h2.2 ⟨c1⟩ r ⟨by rw [hr, c1]; rfl⟩
    · exact one_c1 s i w hi hs _ hb lo0 hi0 h2.1 h2.2 ⟨c1⟩ (contB_lt c1) _ (bN_at s _ (contB_lt c1)) (bN_lo _ _) (bN_hi _ _) r ⟨by rw [hr, c1]; rfl⟩
  rw [if_neg h2] at hr
  by_cases h3 : 224 ≤ bN s i ∧ bN s i ≤ 239
  · rw [if_pos h3] at hr
    by_cases ea : bN s i = 224
    · have eb : ¬ bN s i = 237 := by omega
      rw [loE, hiE, if_pos ea, if_neg eb] at hr
      exact d_any s i w hi hs _ hb lo0 hi0 h3.1 h3.2 160 191 r hr (.inl ⟨ea, rfl, rfl⟩)
    · by_cases eb : bN s i = 237
      · rw [loE, hiE, if_neg ea, if_pos eb] at hr
        exact d_any s i w hi hs _ hb lo0 hi0 h3.1 h3.2 128 159 r hr (.inr (.inl ⟨eb, rfl, rfl⟩))
      · rw [loE, hiE, if_neg ea, if_neg eb] at hr
        exact d_any s i w hi hs _ hb lo0 hi0 h3.1 h3.2 128 191 r hr (.inr (.inr ⟨ea, eb, rfl, rfl⟩))
  rw [if_neg h3] at hr
  by_cases h4 : 240 ≤ bN s i ∧ bN s i ≤ 244
  · rw [if_pos h4] at hr
    by_cases ea : bN s i = 240
    · have eb : ¬ bN s i = 244 := by omega
      rw [loF, hiF, if_pos ea, if_neg eb] at hr
      exact e_any s i w hi hs _ hb lo0 hi0 h4.1 h4.2 144 191 r hr (.inl ⟨ea, rfl, rfl⟩)
    · by_cases eb : bN s i = 244
      · rw [loF, hiF, if_neg ea, if_pos eb] at hr
        exact e_any s i w hi hs _ hb lo0 hi0 h4.1 h4.2 128 143 r hr (.inr (.inl ⟨eb, rfl, rfl⟩))
      · rw [loF, hiF, if_neg ea, if_neg eb] at hr
        exact e_any s i w hi hs _ hb lo0 hi0 h4.1 h4.2 128 191 r hr (.inr (.inr ⟨ea, eb, rfl, rfl⟩))
  rw [if_neg h4] at hr
  exact one_n s i w hi hs _ hb lo0 hi0 (by omega) (by omega) r ⟨hr⟩
end Go.Proofs.Ytifakbipdmceiaa
