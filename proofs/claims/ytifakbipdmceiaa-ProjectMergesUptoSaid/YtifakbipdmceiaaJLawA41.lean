import Derived.Test.YtifakbipdmceiaaJLawA40
set_option linter.unusedVariables false
set_option linter.unusedSimpArgs false
namespace Go.Proofs.Ytifakbipdmceiaa
open Go.RowKit

def refWholeB (l : List Ev) (j : Nat) : Bool := match l[j]? with
  | none => false
  | some e => !(((e.k == 1) && decide (replyR l j < 0)) || ((e.k == 2) && decide (callR l j < 0)))
set_option maxHeartbeats 4000000 in
set_option maxRecDepth 100000 in
theorem Whole_ref (l : List Ev) (A : Option Addr) (c B0 N0 : Nat) (w : World) (hr0 : Row eEl B0 N0 w A l) (hN : N0 ≤ w.heap.size) (hc : l.length ≤ c) :
    Calls Try.prog 26 #[.slice A l.length c] w fun e w' => ∃ v, e = .returned v ∧ OwnR eEl 37 N0 w.heap.size w'.heap.size w' v (keepP (refWholeB l) l) ∧ Below w.heap.size w w' := by
  have hlen := hr0.lenE
  have hr := Q.mk hr0
  clear hr0
  go_enter Try.func26, Try.ntmps26
  go_wp2_with fail
  go_loopw [3, 4] (fun u i wr => ∃ j : Nat, j ≤ l.length ∧ i = .int .i64 j ∧ Q (OwnR eEl 37 N0 w.heap.size wr.heap.size wr u (selP (refWholeB l) l j)) ∧ Below w.heap.size w wr)
    (fun _ i _ => l.length - (intOf i).toNat)
  case atStart => exact ⟨0, Nat.zero_le _, rfl, ⟨OwnR.nil _ _ _ _ _ hN⟩, Below.refl _ _⟩
  case round =>
    obtain ⟨j, hj, rfl, hO, hB⟩ := hrel
    have hz := hB.size
    by_cases hlt : j < l.length
    · obtain ⟨b, o, e, Ae, ce, rfl, hbN, he, hEOk, x0, x1, x2, x3, x4, x5, x6, x7, x8, x9, x10, x11⟩ := (hr.out.below hB hN).atE j hlt
      have hsl := selP_len (refWholeB l) l j
      replace hEOk := Q.mk hEOk
      have hpb : refWholeB l j = !(((e.k == 1) && decide (replyR l j < 0)) || ((e.k == 2) && decide (callR l j < 0))) := by simp [refWholeB, hlt, he]
      have HOFF : Q (refWholeB l j = false → selP (refWholeB l) l (j + 1) = selP (refWholeB l) l j) := ⟨fun h => selP_off _ l j h⟩
      have HON : Q (refWholeB l j = true → selP (refWholeB l) l (j + 1) = selP (refWholeB l) l j ++ [e]) := ⟨fun h => selP_on _ l j hlt he h⟩
      have ARMC : Q (∀ w1, Below w.heap.size w w1 → Calls Try.prog 37 #[.slice (some ⟨b, o, none⟩) l.length c, .int .i64 j] w1 fun e w' => e = .returned (.int .i64 (callR l j)) ∧ Below w1.heap.size w1 w') := ⟨fun w1 h => Call_ref l _ c B0 N0 j w1 (hr.out.below h hN) (by have := h.size; omega) hlt⟩
      have ARMR : Q (∀ w1, Below w.heap.size w w1 → Calls Try.prog 75 #[.slice (some ⟨b, o, none⟩) l.length c, .int .i64 j] w1 fun e w' => e = .returned (.int .i64 (replyR l j)) ∧ Below w1.heap.size w1 w') := ⟨fun w1 h => Reply_ref l _ c B0 N0 j w1 (hr.out.below h hN) (by have := h.size; omega) (by omega) (by omega)⟩
      obtain ⟨q1, hq1⟩ : ∃ q, q = replyR l j := ⟨_, rfl⟩
      obtain ⟨q2, hq2⟩ : ∃ q, q = callR l j := ⟨_, rfl⟩
      rw [← hq1, ← hq2] at hpb
      rw [← hq1] at ARMR
      rw [← hq2] at ARMC
      replace hpb := Q.mk hpb
      clear he hq1 hq2
      by_cases k1 : e.k = 1
      · have t1 : (e.k == 1) = true := by simp [k1]
        have t2 : (e.k == 2) = false := by simp [k1]
        rw [t1, t2] at hpb
        clear k1
        by_cases h0 : q1 < 0
        · have h1 : decide (q1 < 0) = true := by simp; omega
          rw [h1] at hpb
          have HS := Q.mk (HOFF.out (by rw [hpb.out]; rfl))
          clear HOFF HON hpb
          go_wp2_with (go_at_call 75; refine (ARMR.out _ hB).mono ?_; rintro e9 w9 ⟨rfl, hb9⟩; have z9 := hb9.size; obtain ⟨hcc9, hff9, _⟩ := bcell hb9; have lb : b < wr.heap.size := (by omega))
          go_roundw
          case rel => exact ⟨j + 1, by omega, by go_num, ⟨by rw [HS.out]; exact (hO.out.below hb9 (Nat.le_refl _) (by omega)).widen z9 (Nat.le_refl _)⟩, hB.trans (hb9.mono hz)⟩
          case measure => simp [intOf] <;> omega
        · have h1 : decide (q1 < 0) = false := by simp; omega
          rw [h1] at hpb
          have h2 : 0 ≤ q1 := by omega
          clear h0
          have HS := Q.mk (HON.out (by rw [hpb.out]; rfl))
          clear HOFF HON hpb
          go_wp2_with (first
            | (go_at_call 75; refine (ARMR.out _ hB).mono ?_; rintro e9 w9 ⟨rfl, hb9⟩; have z9 := hb9.size; obtain ⟨hcc9, hff9, _⟩ := bcell hb9; have lb : b < wr.heap.size := (by omega))
            | (go_at_call 74; refine (event_ref e Ae ce B0 N0 _ (hEOk.out.below hb9 (by omega)) (by omega)).mono ?_; rintro e2 w3 ⟨A4, c4, rfl, hv4, hb3⟩; replace hv4 := Q.mk hv4; have z3 := hb3.size)
            | (at_builtin; refine wpList_append1D _ rfl eEl (.tmp 37) (.tmp 43) 22 37 rfl Try.underlying22 infoE rfl (B1 := B0) (B' := w9.heap.size) (N' := w3.heap.size) (y := e) (H := w3.heap.size) (by rfl) (by rfl) (heap_alloc_at _ _ rfl) ((((hO.out.below hb9 (Nat.le_refl _) (by omega)).widen z9 (Nat.le_refl _)).below hb3 (Nat.le_refl _) (by omega)).alloc (by omega) _) (hv4.out.elim (fun h => .inl ⟨A4, c4, h.alloc (by omega) _, rfl⟩) (fun h => .inr ⟨A4, c4, h.alloc (Nat.le_refl _) _, rfl⟩)) ⟨Nat.le_refl _, by omega⟩ (by simp) (by simp; omega) (by decide) (by simp only [eEl]; omega) ?_; intro g1 c1 w4 hO4 hg4 hat4))
          have BW : Below w.heap.size w w4 := hO.out.below_grown (((hB.trans (hb9.mono hz)).trans (hb3.mono (by omega))).alloc (by omega) _) hg4 (Nat.le_refl _) (by simp; omega)
          clear hg4 hat4
          go_roundw
          case rel => exact ⟨j + 1, by omega, by go_num, ⟨by rw [HS.out]; exact hO4⟩, BW⟩
          case measure => simp [intOf] <;> omega
      · have t1 : (e.k == 1) = false := by simp [k1]
        rw [t1] at hpb
        clear k1
        by_cases k2 : e.k = 2
        · have t2 : (e.k == 2) = true := by simp [k2]
          rw [t2] at hpb
          clear k2
          by_cases h0 : q2 < 0
          · have h1 : decide (q2 < 0) = true := by simp; omega
            rw [h1] at hpb
            have HS := Q.mk (HOFF.out (by rw [hpb.out]; rfl))
            clear HOFF HON hpb
            go_wp2_with (go_at_call 37; refine (ARMC.out _ hB).mono ?_; rintro e9 w9 ⟨rfl, hb9⟩; have z9 := hb9.size; obtain ⟨hcc9, hff9, _⟩ := bcell hb9; have lb : b < wr.heap.size := (by omega))
            go_roundw
            case rel => exact ⟨j + 1, by omega, by go_num, ⟨by rw [HS.out]; exact (hO.out.below hb9 (Nat.le_refl _) (by omega)).widen z9 (Nat.le_refl _)⟩, hB.trans (hb9.mono hz)⟩
            case measure => simp [intOf] <;> omega
          · have h1 : decide (q2 < 0) = false := by simp; omega
            rw [h1] at hpb
            have h2 : 0 ≤ q2 := by omega
            clear h0
            have HS := Q.mk (HON.out (by rw [hpb.out]; rfl))
            clear HOFF HON hpb
            go_wp2_with (first
              | (go_at_call 37; refine (ARMC.out _ hB).mono ?_; rintro e9 w9 ⟨rfl, hb9⟩; have z9 := hb9.size; obtain ⟨hcc9, hff9, _⟩ := bcell hb9; have lb : b < wr.heap.size := (by omega))
              | (go_at_call 74; refine (event_ref e Ae ce B0 N0 _ (hEOk.out.below hb9 (by omega)) (by omega)).mono ?_; rintro e2 w3 ⟨A4, c4, rfl, hv4, hb3⟩; replace hv4 := Q.mk hv4; have z3 := hb3.size)
              | (at_builtin; refine wpList_append1D _ rfl eEl (.tmp 37) (.tmp 43) 22 37 rfl Try.underlying22 infoE rfl (B1 := B0) (B' := w9.heap.size) (N' := w3.heap.size) (y := e) (H := w3.heap.size) (by rfl) (by rfl) (heap_alloc_at _ _ rfl) ((((hO.out.below hb9 (Nat.le_refl _) (by omega)).widen z9 (Nat.le_refl _)).below hb3 (Nat.le_refl _) (by omega)).alloc (by omega) _) (hv4.out.elim (fun h => .inl ⟨A4, c4, h.alloc (by omega) _, rfl⟩) (fun h => .inr ⟨A4, c4, h.alloc (Nat.le_refl _) _, rfl⟩)) ⟨Nat.le_refl _, by omega⟩ (by simp) (by simp; omega) (by decide) (by simp only [eEl]; omega) ?_; intro g1 c1 w4 hO4 hg4 hat4))
            have BW : Below w.heap.size w w4 := hO.out.below_grown (((hB.trans (hb9.mono hz)).trans (hb3.mono (by omega))).alloc (by omega) _) hg4 (Nat.le_refl _) (by simp; omega)
            clear hg4 hat4
            go_roundw
            case rel => exact ⟨j + 1, by omega, by go_num, ⟨by rw [HS.out]; exact hO4⟩, BW⟩
            case measure => simp [intOf] <;> omega
        · have t2 : (e.k == 2) = false := by simp [k2]
          rw [t2] at hpb
          clear k2
          have HS := Q.mk (HON.out (by rw [hpb.out]; rfl))
          clear HOFF HON hpb
          go_wp2_with (first
            | (go_at_call 74; refine (event_ref e Ae ce B0 N0 _ hEOk.out (by omega)).mono ?_; rintro e2 w3 ⟨A4, c4, rfl, hv4, hb3⟩; replace hv4 := Q.mk hv4; have z3 := hb3.size)
            | (at_builtin; refine wpList_append1D _ rfl eEl (.tmp 37) (.tmp 43) 22 37 rfl Try.underlying22 infoE rfl (B1 := B0) (B' := wr.heap.size) (N' := w3.heap.size) (y := e) (H := w3.heap.size) (by rfl) (by rfl) (heap_alloc_at _ _ rfl) ((hO.out.below hb3 (Nat.le_refl _) (by omega)).alloc (by omega) _) (hv4.out.elim (fun h => .inl ⟨A4, c4, h.alloc (by omega) _, rfl⟩) (fun h => .inr ⟨A4, c4, h.alloc (Nat.le_refl _) _, rfl⟩)) ⟨Nat.le_refl _, by omega⟩ (by simp) (by simp; omega) (by decide) (by simp only [eEl]; omega) ?_; intro g1 c1 w4 hO4 hg4 hat4))
          have BW : Below w.heap.size w w4 := hO.out.below_grown ((hB.trans (hb3.mono (by omega))).alloc (by omega) _) hg4 (Nat.le_refl _) (by simp; omega)
          clear hg4 hat4
          go_roundw
          case rel => exact ⟨j + 1, by omega, by go_num, ⟨by rw [HS.out]; exact hO4⟩, BW⟩
          case measure => simp [intOf] <;> omega
    · go_wp2
      go_ret
      obtain rfl : j = l.length := by omega
      exact ⟨_, rfl, hO.out, hB⟩
end Go.Proofs.Ytifakbipdmceiaa
