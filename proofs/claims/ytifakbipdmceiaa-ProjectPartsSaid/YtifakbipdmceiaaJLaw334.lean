import Derived.Test.YtifakbipdmceiaaJLaw322
section
set_option linter.unusedVariables false
set_option linter.unusedSimpArgs false
namespace Go.Proofs.Ytifakbipdmceiaa
open Go.RowKit

def onceP (xs : List ByteArray) (s : ByteArray) : List ByteArray := if inS s xs = true then xs else xs ++ [s]
set_option maxHeartbeats 2000000 in
set_option maxRecDepth 100000 in
theorem once_ref (xs : List ByteArray) (s : ByteArray) (A : Option Addr) (c B N : Nat) (w : World) (hO0 : Own sEl 9 B N w (.slice A xs.length c) xs) (hBN : B ≤ N) (hB0 : B ≤ w.heap.size) (hc : xs.length ≤ c) (hs : s.size ≤ 140737488355328) (hl : (xs.length + 1) * 16 ≤ 140737488355328) :
    Calls Try.prog 71 #[.slice A xs.length c, .string s] w fun e w' => ∃ v2, e = .returned v2 ∧ Own sEl 9 B w'.heap.size w' v2 (onceP xs s) ∧ Below B w w' := by
  have hO := Q.mk hO0
  obtain ⟨A9, c9, h9, hc9, hr9⟩ := hO0.row
  cases h9
  have hr := Q.mk hr9
  have hN := hO0.1
  clear hO0 hr9
  obtain ⟨r, hr'⟩ : ∃ r, r = inS s xs := ⟨_, rfl⟩
  have hR0 : Q (r = inS s (xs.drop 0)) := ⟨by rw [hr']; rfl⟩
  replace hr' := Q.mk hr'
  go_enter Try.func71, Try.ntmps71
  go_wp2_with fail
  go_loop [5] (fun i => ∃ j : Nat, j ≤ xs.length ∧ i = .int .i64 j ∧ Q (r = inS s (xs.drop j))) (fun i => xs.length - (intOf i).toNat)
  case atStart => exact ⟨0, Nat.zero_le _, rfl, hR0⟩
  case round =>
    clear hR0
    obtain ⟨j, hj, rfl, hR⟩ := hrel
    by_cases hlt : j < xs.length
    · obtain ⟨b, o, rfl, hBb, hNb, hss, x0⟩ := hr.out.atS j hlt
      obtain ⟨y, hy⟩ : ∃ y, y = xs[j] := ⟨_, rfl⟩
      rw [← hy] at x0
      have HS := hR.out
      rw [List.drop_eq_getElem_cons hlt, ← hy, inS, List.any_cons] at HS
      cases h1 : decide (y = s)
      · have t1 : (y.toList == s.toList) = false := by rw [sEq, h1]
        have HR : Q (r = inS s (xs.drop (j + 1))) := ⟨by rw [HS, h1]; rfl⟩
        clear h1 HS hy
        go_wp2
        go_round
        case rel => exact ⟨j + 1, by omega, by go_num, HR⟩
        case measure => simp [intOf] <;> omega
      · have t1 : (y.toList == s.toList) = true := by rw [sEq, h1]
        have HR : Q (r = true) := ⟨by rw [HS, h1]; rfl⟩
        clear h1 HS hy
        go_wp2
        go_ret
        refine ⟨_, rfl, ?_, Below.refl _ _⟩
        rw [onceP, ← hr'.out, HR.out]
        exact hO.out.widen hN (Nat.le_refl _)
    · have HR : Q (r = false) := ⟨by rw [hR.out, List.drop_eq_nil_of_le (by omega)]; rfl⟩
      go_wp2_with (at_builtin; (refine wpList_append1 _ rfl sEl (.tmp 19) (.tmp 21) 26 9 rfl Try.underlying26 infoS rfl (B := B) (N := N) (B' := N) (N' := N) (y := s) B (by rfl) (by rfl) (heap_alloc_new _ _) (hO.out.alloc _) ⟨hs, rfl⟩ (Or.inl (Nat.le_refl _)) (by simp; omega) (Nat.le_refl _) hBN (by simp; omega) (by decide) (by simp only [sEl]; omega) ?_); intro g1 c1 w4 hO4 hg4 hat4)
      go_ret
      refine ⟨_, rfl, ?_, hO.out.below_grown ((Below.refl _ _).alloc hB0 _) hg4 (Nat.le_refl _) (by simp; omega)⟩
      rw [onceP, ← hr'.out, HR.out]
      exact hO4
end Go.Proofs.Ytifakbipdmceiaa
end
section
set_option linter.unusedVariables false
set_option linter.unusedSimpArgs false
namespace Go.Proofs.Ytifakbipdmceiaa
open Go.RowKit

theorem selN_step (of : Ev → ByteArray × Bool) (l : List Ev) (j : Nat) (hj : j < l.length) {e : Ev} (he : l[j] = e) : selN of l (j + 1) = if (of e).2 = true then onceP (selN of l j) (of e).1 else selN of l j := by
  rw [selN, show l[j]? = some e by simp [hj, he]]
  simp only [onceP]
  cases h1 : (of e).2 <;> cases h2 : inS (of e).1 (selN of l j) <;> simp
set_option maxHeartbeats 2000000 in
set_option maxRecDepth 100000 in
theorem Objects_ref (l : List Ev) (A : Option Addr) (c B0 N0 : Nat) (w : World) (hr0 : Row eEl B0 N0 w A l) (hN : N0 ≤ w.heap.size) (hc : l.length ≤ c) :
    Calls Try.prog 20 #[.slice A l.length c] w fun e w' => ∃ v, e = .returned v ∧ Own sEl 9 w.heap.size w'.heap.size w' v (objectsP l) ∧ Below w.heap.size w w' := by
  have hlen := hr0.lenE
  have hr := Q.mk hr0
  clear hr0
  go_enter Try.func20, Try.ntmps20
  go_wp2_with fail
  go_loopw [3, 4] (fun u i wr => ∃ j : Nat, j ≤ l.length ∧ i = .int .i64 j ∧ Q (Own sEl 9 w.heap.size wr.heap.size wr u (selN objOf l j)) ∧ Below w.heap.size w wr)
    (fun _ i _ => l.length - (intOf i).toNat)
  case atStart => exact ⟨0, Nat.zero_le _, rfl, ⟨(Own.nil _ _ _ _)⟩, Below.refl _ _⟩
  case round =>
    obtain ⟨j, hj, rfl, hO, hB⟩ := hrel
    have hz := hB.size
    by_cases hlt : j < l.length
    · obtain ⟨b, o, e, Ae, ce, rfl, hbN, he, hEOk, x0, x1, x2, x3, x4, x5, x6, x7, x8, x9, x10, x11⟩ := (hr.out.below hB hN).atE j hlt
      have hsl := selN_len objOf l j
      have HN := selN_step objOf l j hlt he
      have hsz := hEOk.o
      obtain ⟨A5, c5, rfl, hc5, hr5⟩ := hO.out.row
      obtain ⟨acc, hacc⟩ : ∃ acc, acc = selN objOf l j := ⟨_, rfl⟩
      rw [← hacc] at hO hsl hc5 HN
      rw [← hacc]
      clear he hacc hEOk hr5
      by_cases k1 : e.k = 1
      · have t1 : (e.k == 1) = true := by simp [k1]
        have HS : Q (selN objOf l (j + 1) = onceP acc e.o) := ⟨by rw [HN]; exact if_pos t1⟩
        clear HN k1
        go_wp2_with (go_at_call 71; refine (once_ref acc e.o A5 c5 w.heap.size wr.heap.size _ hO.out hz hz hc5 hsz (by omega)).mono ?_; rintro e2 w2 ⟨v2, rfl, ho2, hb2⟩; replace ho2 := Q.mk ho2)
        go_roundw
        case rel => exact ⟨j + 1, by omega, by go_num, ⟨by rw [HS.out]; exact ho2.out⟩, hB.trans hb2⟩
        case measure => simp [intOf] <;> omega
      · have t1 : (e.k == 1) = false := by simp [k1]
        have HS : Q (selN objOf l (j + 1) = acc) := ⟨by rw [HN]; exact if_neg (by show ¬ (e.k == 1) = true; rw [t1]; decide)⟩
        clear HN k1
        go_wp2
        go_roundw
        case rel => exact ⟨j + 1, by omega, by go_num, ⟨by rw [HS.out]; exact hO.out⟩, hB⟩
        case measure => simp [intOf] <;> omega
    · go_wp2
      go_ret
      obtain rfl : j = l.length := by omega
      exact ⟨_, rfl, hO.out, hB⟩
set_option maxHeartbeats 2000000 in
set_option maxRecDepth 100000 in
theorem Procs_ref (l : List Ev) (A : Option Addr) (c B0 N0 : Nat) (w : World) (hr0 : Row eEl B0 N0 w A l) (hN : N0 ≤ w.heap.size) (hc : l.length ≤ c) :
    Calls Try.prog 22 #[.slice A l.length c] w fun e w' => ∃ v, e = .returned v ∧ Own sEl 9 w.heap.size w'.heap.size w' v (procsP l) ∧ Below w.heap.size w w' := by
  have hlen := hr0.lenE
  have hr := Q.mk hr0
  clear hr0
  go_enter Try.func22, Try.ntmps22
  go_wp2_with fail
  go_loopw [3, 4] (fun u i wr => ∃ j : Nat, j ≤ l.length ∧ i = .int .i64 j ∧ Q (Own sEl 9 w.heap.size wr.heap.size wr u (selN procOf l j)) ∧ Below w.heap.size w wr)
    (fun _ i _ => l.length - (intOf i).toNat)
  case atStart => exact ⟨0, Nat.zero_le _, rfl, ⟨(Own.nil _ _ _ _)⟩, Below.refl _ _⟩
  case round =>
    obtain ⟨j, hj, rfl, hO, hB⟩ := hrel
    have hz := hB.size
    by_cases hlt : j < l.length
    · obtain ⟨b, o, e, Ae, ce, rfl, hbN, he, hEOk, x0, x1, x2, x3, x4, x5, x6, x7, x8, x9, x10, x11⟩ := (hr.out.below hB hN).atE j hlt
      have hsl := selN_len procOf l j
      have HN := selN_step procOf l j hlt he
      have hsz := hEOk.p
      obtain ⟨A5, c5, rfl, hc5, hr5⟩ := hO.out.row
      obtain ⟨acc, hacc⟩ : ∃ acc, acc = selN procOf l j := ⟨_, rfl⟩
      rw [← hacc] at hO hsl hc5 HN
      rw [← hacc]
      clear he hacc hEOk hr5
      have HS : Q (selN procOf l (j + 1) = onceP acc e.p) := ⟨HN⟩
      clear HN
      go_wp2_with (go_at_call 71; refine (once_ref acc e.p A5 c5 w.heap.size wr.heap.size _ hO.out hz hz hc5 hsz (by omega)).mono ?_; rintro e2 w2 ⟨v2, rfl, ho2, hb2⟩; replace ho2 := Q.mk ho2)
      go_roundw
      case rel => exact ⟨j + 1, by omega, by go_num, ⟨by rw [HS.out]; exact ho2.out⟩, hB.trans hb2⟩
      case measure => simp [intOf] <;> omega
    · go_wp2
      go_ret
      obtain rfl : j = l.length := by omega
      exact ⟨_, rfl, hO.out, hB⟩
end Go.Proofs.Ytifakbipdmceiaa
end
