import Derived.Test.YtifakbipdmceiaaJLawA1
set_option linter.unusedVariables false
namespace Go.Proofs.Ytifakbipdmceiaa
open Go.RowKit

def letterB (r : Int) : Bool := decide ((97 ≤ r ∧ r ≤ 122) ∨ (65 ≤ r ∧ r ≤ 90) ∨ r = 95 ∨ (192 ≤ r ∧ r ≤ 214) ∨ (216 ≤ r ∧ r ≤ 246) ∨ (248 ≤ r ∧ r ≤ 591) ∨ (913 ≤ r ∧ r ≤ 929) ∨ (931 ≤ r ∧ r ≤ 969))

def lettersV : Value := .agg #[.int .i32 97, .int .i32 122, .int .i32 65, .int .i32 90, .int .i32 95, .int .i32 95, .int .i32 192, .int .i32 214, .int .i32 216, .int .i32 246, .int .i32 248, .int .i32 591, .int .i32 913, .int .i32 929, .int .i32 931, .int .i32 969]

set_option maxHeartbeats 1000000 in
set_option maxRecDepth 100000 in
theorem letters_any (w : World) : Calls Try.prog 147 #[] w fun e w' => e = .returned lettersV ∧ Below w.heap.size w w' := by
  go_enter Try.func147, Try.ntmps147
  go_wp2
  exact bodyPost_ret (results_cell_row rfl _ _ w.heap.size 169 _ (0, 0) _ rfl (heap_alloc_new _ _) Try.underlying169 rfl (by kernel_rfl)) rfl ⟨rfl, (Below.refl _ _).alloc (Nat.le_refl _) _⟩

def rowOf : Nat → Int × Int
  | 0 => (97, 122) | 1 => (65, 90) | 2 => (95, 95) | 3 => (192, 214) | 4 => (216, 246) | 5 => (248, 591) | 6 => (913, 929) | _ => (931, 969)
theorem row0 : ∀ w : World, (Instr.index 169 lettersV (.int .i64 0)).run Try.prog w = .ok (.agg #[.int .i32 97, .int .i32 122]) w := fun _ => by kernel_rfl
theorem row1 : ∀ w : World, (Instr.index 169 lettersV (.int .i64 1)).run Try.prog w = .ok (.agg #[.int .i32 65, .int .i32 90]) w := fun _ => by kernel_rfl
theorem row2 : ∀ w : World, (Instr.index 169 lettersV (.int .i64 2)).run Try.prog w = .ok (.agg #[.int .i32 95, .int .i32 95]) w := fun _ => by kernel_rfl
theorem row3 : ∀ w : World, (Instr.index 169 lettersV (.int .i64 3)).run Try.prog w = .ok (.agg #[.int .i32 192, .int .i32 214]) w := fun _ => by kernel_rfl
theorem row4 : ∀ w : World, (Instr.index 169 lettersV (.int .i64 4)).run Try.prog w = .ok (.agg #[.int .i32 216, .int .i32 246]) w := fun _ => by kernel_rfl
theorem row5 : ∀ w : World, (Instr.index 169 lettersV (.int .i64 5)).run Try.prog w = .ok (.agg #[.int .i32 248, .int .i32 591]) w := fun _ => by kernel_rfl
theorem row6 : ∀ w : World, (Instr.index 169 lettersV (.int .i64 6)).run Try.prog w = .ok (.agg #[.int .i32 913, .int .i32 929]) w := fun _ => by kernel_rfl
theorem row7 : ∀ w : World, (Instr.index 169 lettersV (.int .i64 7)).run Try.prog w = .ok (.agg #[.int .i32 931, .int .i32 969]) w := fun _ => by kernel_rfl
theorem row_at (k : Nat) (hk : k < 8) (w : World) : (Instr.index 169 lettersV (.int .i64 (k : Int))).run Try.prog w = .ok (.agg #[.int .i32 (rowOf k).1, .int .i32 (rowOf k).2]) w := by
  have h : k = 0 ∨ k = 1 ∨ k = 2 ∨ k = 3 ∨ k = 4 ∨ k = 5 ∨ k = 6 ∨ k = 7 := by omega
  rcases h with rfl | rfl | rfl | rfl | rfl | rfl | rfl | rfl
  · exact row0 w
  · exact row1 w
  · exact row2 w
  · exact row3 w
  · exact row4 w
  · exact row5 w
  · exact row6 w
  · exact row7 w
def letterUp (r : Int) : Nat → Bool
  | 0 => false
  | k + 1 => letterUp r k || (decide ((rowOf k).1 ≤ r) && decide (r ≤ (rowOf k).2))
theorem letterUp_8 (r : Int) : letterUp r 8 = letterB r := by
  rw [Bool.eq_iff_iff]
  simp [letterUp, rowOf, letterB]
  omega
theorem letterUp_le (r : Int) : ∀ (n k : Nat), k ≤ n → letterUp r k = true → letterUp r n = true := by
  intro n
  induction n with
  | zero => intro k hk h; obtain rfl : k = 0 := by omega
            exact h
  | succ n ih =>
    intro k hk h
    rcases Nat.lt_or_ge n k with h1 | h1
    · obtain rfl : k = n + 1 := by omega
      exact h
    · simp [letterUp, ih k h1 h]

set_option maxHeartbeats 1000000 in
set_option maxRecDepth 100000 in
theorem Letter_any (r : Int) (w : World) : Calls Try.prog 139 #[.int .i32 r] w fun e w' => e = .returned (.bool (letterB r)) ∧ Below w.heap.size w w' := by
  go_enter Try.func139, Try.ntmps139
  go_wp2_with (go_at_call 147; refine (letters_any _).mono ?_; rintro e w1 ⟨rfl, hb1⟩)
  have HB1 := Lib.hid hb1
  clear hb1
  go_loopw [6] (fun i wr => ∃ k : Nat, k ≤ 8 ∧ i = .int .i64 k ∧ Q (letterUp r k = false) ∧ Below w.heap.size w wr) (fun i _ => 8 - (intOf i).toNat)
  case atStart => exact ⟨0, by omega, rfl, ⟨rfl⟩, HB1.out⟩
  case round =>
    obtain ⟨k, hk, rfl, hu, hB⟩ := hrel
    by_cases hlt : k < 8
    · have hrow := row_at k hlt
      go_wp2
      · go_ret
        have h1 : (rowOf k).1 ≤ r := by assumption
        have h2 : r ≤ (rowOf k).2 := by assumption
        have h3 : letterB r = true := by rw [← letterUp_8]; exact letterUp_le r 8 (k + 1) (by omega) (by simp [letterUp, h1, h2])
        exact ⟨by rw [h3]; rfl, hB.alloc hB.size _⟩
      · have h2 : (rowOf k).2 < r := by assumption
        go_roundw
        case rel => exact ⟨k + 1, by omega, by go_num, ⟨by simp [letterUp, hu.out, h2]⟩, hB.alloc hB.size _⟩
        case measure => simp [intOf]; omega
      · have h1 : ¬ (rowOf k).1 ≤ r := by assumption
        go_roundw
        case rel => exact ⟨k + 1, by omega, by go_num, ⟨by simp [letterUp, hu.out]; omega⟩, hB.alloc hB.size _⟩
        case measure => simp [intOf]; omega
    · go_wp2
      go_ret
      obtain rfl : k = 8 := by omega
      have h8 := letterUp_8 r
      rw [hu.out] at h8
      exact ⟨by rw [← h8]; rfl, hB⟩
/-! ### names -/
def okB (first : Bool) (r : Int) : Bool := letterB r || (!first && (r == 39 || (decide (48 ≤ r) && decide (r ≤ 57))))
def nmF : Nat → ByteArray → Nat → Nat → Bool
  | 0, _, _, n => decide (n ≠ 0) && decide (n ≤ 32)
  | f + 1, s, pos, n => if pos < s.size then (if okB (n == 0) ((Utf8.decode s pos).1 : Int) = true then nmF f s (pos + (Utf8.decode s pos).2) (n + 1) else false) else decide (n ≠ 0) && decide (n ≤ 32)
def nameB (s : ByteArray) : Bool := nmF s.size s 0 0
def errnoB (b : Bool) (e : Int) : Int := if b = true then 0 else e

theorem width_pos (s : ByteArray) (pos : Nat) (h : pos < s.size) : 1 ≤ (Utf8.decode s pos).2 := by
  by_cases ha : (s[pos]'h).toNat < 128
  · rw [decode_ascii s pos h ha]
    exact Nat.le_refl _
  · exact (decode_high s pos h (by omega)).2
theorem nmF_end (f : Nat) (s : ByteArray) (pos n : Nat) (h : ¬ pos < s.size) : nmF f s pos n = (decide (n ≠ 0) && decide (n ≤ 32)) := by
  cases f with
  | zero => rfl
  | succ f => simp [nmF, h]

set_option maxHeartbeats 1000000 in
set_option maxRecDepth 100000 in
theorem Name_any (s : ByteArray) (w : World) (hs : s.size ≤ 140737488355328) : Calls Try.prog 118 #[.string s] w fun e w' => e = .returned (.int .i64 (errnoB (nameB s) 21)) ∧ Below w.heap.size w w' := by
  go_enter Try.func118, Try.ntmps118
  go_wp2
  go_loopw [3] (fun v wr => ∃ (pos fuel n : Nat), v = .int .i64 n ∧ Q (wr.heap[w.heap.size]? = some (.stringIter s pos)) ∧ Below w.heap.size w wr ∧ Q (nmF fuel s pos n = nameB s) ∧ s.size ≤ pos + fuel ∧ n ≤ pos) (fun _ wr => s.size - wr.iterPos w.heap.size)
  case atStart => exact ⟨0, s.size, 0, rfl, ⟨World.iter_heap w s 0⟩, (Below.refl _ _).alloc (Nat.le_refl _) _, ⟨rfl⟩, by omega, by omega⟩
  case round =>
    obtain ⟨pos, fuel, n, rfl, hit, hB, HS, hb, hn⟩ := hrel
    have hpos0 := iterPos_of hit.out
    by_cases hp : pos < s.size
    · have hnx : ∀ ty, (Instr.next (.pointer (some ⟨w.heap.size, 0, none⟩)) true ty).run Try.prog wr = _ := fun ty => Lib.run_next_any_at wr w.heap.size s pos ty hit.out hp
      have hwd := width_pos s pos hp
      obtain ⟨fuel, rfl⟩ : ∃ f', fuel = f' + 1 := ⟨fuel - 1, by omega⟩
      have hit2 := Q.mk (Lib.iterAt_heap wr w.heap.size s pos (pos + (Utf8.decode s pos).2) hit.out)
      have hB2 := Lib.below_iterAt hB (k := w.heap.size) (Nat.le_refl _) s (pos + (Utf8.decode s pos).2)
      obtain ⟨W1, hW1⟩ : ∃ W1, W1 = wr.iterAt w.heap.size s (pos + (Utf8.decode s pos).2) := ⟨_, rfl⟩
      have hsz := Q.mk hpos0
      rw [← hW1] at hnx hit2 hB2
      have H := HS.out
      simp only [nmF, if_pos hp] at H
      obtain ⟨r, hr⟩ : ∃ r : Int, r = ((Utf8.decode s pos).1 : Int) := ⟨_, rfl⟩
      obtain ⟨wd, hwd'⟩ : ∃ wd, wd = (Utf8.decode s pos).2 := ⟨_, rfl⟩
      rw [← hr] at hnx H
      rw [← hwd'] at hwd hit2 H
      clear hW1 hr hwd' HS hit hB hpos0
      have H' := Q.mk H
      clear H
      have hlt0 := box_lt hit2.out
      cases hL : letterB r with
      | true =>
        go_wp2_with (go_at_call 139; refine (Letter_any _ _).mono ?_; rintro e w2 ⟨rfl, hb2⟩)
        have hit3 := hb2.box hit2.out hlt0
        have h0 : okB (n == 0) r = true := by simp [okB, hL]
        have h1 := H'.out
        rw [if_pos h0] at h1
        go_roundw
        case rel => exact ⟨pos + wd, fuel, n + 1, by go_num, ⟨hit3⟩, hB2.trans (hb2.mono (by omega)), ⟨h1⟩, by omega, by omega⟩
        case measure => rw [hsz.out, iterPos_of hit3]; omega
      | false =>
        go_wp2_with (go_at_call 139; refine (Letter_any _ _).mono ?_; rintro e w2 ⟨rfl, hb2⟩)
        all_goals
          have hit3 := hb2.box hit2.out hlt0
          have h1 := H'.out
          first
          | (go_ret
             have h0 : okB (n == 0) r = false := by simp [okB, hL]; first | omega | (have hd : (((n : Int) + 1 == 1) = true ∨ (r != 39) = true ∧ (r < 48 ∨ 57 < r)) := (by assumption); simp at hd; omega)
             rw [if_neg (by rw [h0]; simp)] at h1
             exact ⟨by rw [← h1]; rfl, hB2.trans (hb2.mono (by omega))⟩)
          | (have h0 : okB (n == 0) r = true := by simp [okB, hL]; first | omega | (have hd : (((n : Int) + 1 == 1) = false ∧ ((r != 39) = false ∨ 48 ≤ r ∧ r ≤ 57)) := (by assumption); simp at hd; omega)
             rw [if_pos h0] at h1
             go_roundw
             case rel => exact ⟨pos + wd, fuel, n + 1, by go_num, ⟨hit3⟩, hB2.trans (hb2.mono (by omega)), ⟨h1⟩, by omega, by omega⟩
             case measure => rw [hsz.out, iterPos_of hit3]; omega)
    · have hnx : ∀ ty, (Instr.next (.pointer (some ⟨w.heap.size, 0, none⟩)) true ty).run Try.prog wr = _ := fun ty => Lib.run_next_end_at wr w.heap.size s pos ty hit.out hp
      have H := Q.mk (HS.out.symm.trans (nmF_end fuel s pos n hp))
      clear hpos0
      rcases Nat.eq_zero_or_pos n with rfl | hn0
      · have h0 : nameB s = false := by rw [H.out]; rfl
        go_wp2
        go_ret
        exact ⟨by rw [h0]; rfl, hB⟩
      · have e0 : ((n : Int) == 0) = false := by simp; omega
        by_cases h32 : n ≤ 32
        · have h0 : nameB s = true := by rw [H.out]; simp; omega
          have e1 : decide (32 < (n : Int)) = false := by simp; omega
          go_wp2
          go_ret
          exact ⟨by rw [h0]; rfl, hB⟩
        · have h0 : nameB s = false := by rw [H.out]; simp; omega
          have e1 : decide (32 < (n : Int)) = true := by simp; omega
          go_wp2
          go_ret
          exact ⟨by rw [h0]; rfl, hB⟩
end Go.Proofs.Ytifakbipdmceiaa
