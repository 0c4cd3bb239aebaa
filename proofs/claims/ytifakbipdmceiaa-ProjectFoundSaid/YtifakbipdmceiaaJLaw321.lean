import Derived.Test.YtifakbipdmceiaaJLaw317
import Derived.Test.YtifakbipdmceiaaJLaw315
import Derived.Test.YtifakbipdmceiaaJLaw319
import Derived.Test.YtifakbipdmceiaaJLaw320
import Derived.Test.YtifakbipdmceiaaJLaw316
section
set_option linter.unusedVariables false
set_option linter.unusedSimpArgs false
namespace Go.Proofs.Ytifakbipdmceiaa
open Go.RowKit

set_option maxHeartbeats 4000000 in
set_option maxRecDepth 100000 in
theorem event_ref (x : Ev) (A : Option Addr) (c B0 N0 : Nat) (w : World) (hx0 : EOk B0 N0 w x A c) (hN : N0 ≤ w.heap.size) :
    Calls Try.prog 74 #[.agg #[.int .i64 x.k, .string x.p, .string x.o, .string x.q, .int .i64 x.v.kind, .int .i64 x.v.int, .int .i64 x.v.im, .string x.v.text, .slice A x.v.items.length c, .int .i64 x.a, .int .i64 x.b, .int .i64 x.c]] w fun e w' => ∃ A' c', e = .returned (.agg #[.int .i64 x.k, .string x.p, .string x.o, .string x.q, .int .i64 x.v.kind, .int .i64 x.v.int, .int .i64 x.v.im, .string x.v.text, .slice A' x.v.items.length c', .int .i64 x.a, .int .i64 x.b, .int .i64 x.c]) ∧ (EOk B0 N0 w' x A' c' ∨ EOk w.heap.size w'.heap.size w' x A' c') ∧ Below w.heap.size w w' := by
  have hx := Q.mk hx0
  clear hx0
  obtain ⟨W0, hW0, b0, b1, BB, Z⟩ := boxes2 w (.cells #[.int .i64 x.k, .string x.p, .string x.o, .string x.q, .int .i64 x.v.kind, .int .i64 x.v.int, .int .i64 x.v.im, .string x.v.text, .slice A x.v.items.length c, .int .i64 x.a, .int .i64 x.b, .int .i64 x.c] 37) (.cells #[.int .i64 0, .string ⟨#[]⟩, .string ⟨#[]⟩, .string ⟨#[]⟩, .int .i64 0, .int .i64 0, .int .i64 0, .string ⟨#[]⟩, .slice none 0 0, .int .i64 0, .int .i64 0, .int .i64 0] 37)
  replace hW0 := Q.mk hW0
  go_enter Try.func74, Try.ntmps74
  go_wp2_with (go_at_call 63; rw [← hW0.out]; clear hW0; refine (Copy_ref x.v A c B0 N0 _ (hx.out.v.below BB hN) (by omega)).mono ?_; rintro e w2 ⟨A2, c2, rfl, hv2, hb2⟩; replace hv2 := Q.mk hv2; have z2 := hb2.size; obtain ⟨p0, p1, p2, p3, p4, p5, p6, p7, p8, p9, p10, p11, pf⟩ := box12 (hb2.box b0.out (by omega)); obtain ⟨q0, q1, q2, q3, q4, q5, q6, q7, q8, q9, q10, q11, qf⟩ := box12 (hb2.box b1.out (by omega)))
  have L0 : w.heap.size < w2.heap.size := by omega
  have L1 : w.heap.size + 1 < w2.heap.size := by omega
  have L2 : w.heap.size ≤ w.heap.size + 1 := by omega
  have L3 : w.heap.size < W0.heap.size := by omega
  have L4 : w.heap.size + 1 < W0.heap.size := by omega
  have BW : Below w.heap.size w w2 := BB.trans (hb2.mono (by omega))
  refine bodyPost_ret (results_cell_row rfl _ _ (w.heap.size + 1) 37 #[.int .i64 x.k, .string x.p, .string x.o, .string x.q, .int .i64 x.v.kind, .int .i64 x.v.int, .int .i64 x.v.im, .string x.v.text, .slice A2 x.v.items.length c2, .int .i64 x.a, .int .i64 x.b, .int .i64 x.c] (0, 0) _ rfl
    (box_set12 (box_far5 (hb2.box b1.out (by omega)) (Nat.succ_ne_self _))) Try.underlying37 rfl (by kernel_rfl)) rfl ⟨A2, c2, rfl, ?_, ?_⟩
  · rcases hv2.out with hv | hv
    · exact .inl ⟨(hv.set5 (.inr hN)).set12 (.inr (Nat.le_succ_of_le hN)), hx.out.p, hx.out.o, hx.out.q⟩
    · refine .inr ⟨?_, hx.out.p, hx.out.o, hx.out.q⟩
      exact ((hv.set5 (.inl L3)).set12 (.inl L4)).mono (by omega) (by simp only [size_set]; omega)
  · exact (BW.set5 (Nat.le_refl _)).set12 L2
end Go.Proofs.Ytifakbipdmceiaa
end
section
set_option linter.unusedVariables false
set_option linter.unusedSimpArgs false
namespace Go.Proofs.Ytifakbipdmceiaa
open Go.RowKit

theorem selP_on (P : Nat → Bool) (l : List Ev) (j : Nat) (hj : j < l.length) {e : Ev} (he : l[j] = e) (hp : P j = true) : selP P l (j + 1) = selP P l j ++ [e] := by rw [selP]; simp [hj, he, hp]
theorem selP_off (P : Nat → Bool) (l : List Ev) (j : Nat) (hp : P j = false) : selP P l (j + 1) = selP P l j := by
  rw [selP]; split
  · rfl
  · simp [hp]
set_option maxHeartbeats 2000000 in
set_option maxRecDepth 100000 in
theorem Proc_ref (l : List Ev) (A : Option Addr) (c B0 N0 : Nat) (name : ByteArray) (w : World) (hr0 : Row eEl B0 N0 w A l) (hN : N0 ≤ w.heap.size) (hc : l.length ≤ c) :
    Calls Try.prog 25 #[.slice A l.length c, .string name] w fun e w' => ∃ v, e = .returned v ∧ OwnR eEl 37 N0 w.heap.size w'.heap.size w' v (keepP (procB l name) l) ∧ Below w.heap.size w w' := by
  have hlen := hr0.lenE
  have hr := Q.mk hr0
  clear hr0
  go_enter Try.func25, Try.ntmps25
  go_wp2_with fail
  go_loopw [5, 6] (fun u i wr => ∃ j : Nat, j ≤ l.length ∧ i = .int .i64 j ∧ Q (OwnR eEl 37 N0 w.heap.size wr.heap.size wr u (selP (procB l name) l j)) ∧ Below w.heap.size w wr)
    (fun _ i _ => l.length - (intOf i).toNat)
  case atStart => exact ⟨0, Nat.zero_le _, rfl, ⟨OwnR.nil _ _ _ _ _ hN⟩, Below.refl _ _⟩
  case round =>
    obtain ⟨j, hj, rfl, hO, hB⟩ := hrel
    have hz := hB.size
    by_cases hlt : j < l.length
    · obtain ⟨b, o, e, Ae, ce, rfl, hbN, he, hEOk, x0, x1, x2, x3, x4, x5, x6, x7, x8, x9, x10, x11⟩ := (hr.out.below hB hN).atE j hlt
      have hsl := selP_len (procB l name) l j
      have hpb : procB l name j = (e.p.toList == name.toList) := by rw [sEq]; simp [procB, hlt, he]
      replace hEOk := Q.mk hEOk
      cases hp : procB l name j
      · have HS : Q (selP (procB l name) l (j + 1) = selP (procB l name) l j) := ⟨selP_off _ l j hp⟩
        rw [hp] at hpb
        replace hp := Q.mk hp
        have t1 := hpb.symm
        clear hpb he
        go_wp2
        go_roundw
        case rel => exact ⟨j + 1, by omega, by go_num, ⟨by rw [HS.out]; exact hO.out⟩, hB⟩
        case measure => simp [intOf] <;> omega
      · have HS : Q (selP (procB l name) l (j + 1) = selP (procB l name) l j ++ [e]) := ⟨selP_on _ l j hlt he hp⟩
        rw [hp] at hpb
        replace hp := Q.mk hp
        have t1 := hpb.symm
        clear hpb he
        go_wp2_with (first
          | (go_at_call 74; refine (event_ref e Ae ce B0 N0 _ hEOk.out (by omega)).mono ?_; rintro e2 w3 ⟨A4, c4, rfl, hv4, hb3⟩; replace hv4 := Q.mk hv4; have z3 := hb3.size)
          | (at_builtin; refine wpList_append1D _ rfl eEl (.tmp 20) (.tmp 26) 22 37 rfl Try.underlying22 infoE rfl (B1 := B0) (B' := wr.heap.size) (N' := w3.heap.size) (y := e) (H := w3.heap.size) (by rfl) (by rfl) (heap_alloc_at _ _ rfl) ((hO.out.below hb3 (Nat.le_refl _) (by omega)).alloc (by omega) _) (hv4.out.elim (fun h => .inl ⟨A4, c4, h.alloc (by omega) _, rfl⟩) (fun h => .inr ⟨A4, c4, h.alloc (Nat.le_refl _) _, rfl⟩)) ⟨Nat.le_refl _, hz⟩ (by simp) (by simp; omega) (by decide) (by simp only [eEl]; omega) ?_; intro g1 c1 w4 hO4 hg4 hat4))
        have BW : Below w.heap.size w w4 := hO.out.below_grown ((hB.trans (hb3.mono hz)).alloc (by omega) _) hg4 (Nat.le_refl _) (by simp; omega)
        clear hg4 hat4
        go_roundw
        case rel => exact ⟨j + 1, by omega, by go_num, ⟨by rw [HS.out]; exact hO4⟩, BW⟩
        case measure => simp [intOf] <;> omega
    · go_wp2
      go_ret
      obtain rfl : j = l.length := by omega
      exact ⟨_, rfl, hO.out, hB⟩
end Go.Proofs.Ytifakbipdmceiaa
end
section
set_option linter.unusedVariables false
set_option linter.unusedSimpArgs false
namespace Go.Proofs.Ytifakbipdmceiaa
open Go.RowKit

set_option maxHeartbeats 2000000 in
set_option maxRecDepth 100000 in
theorem CopyE_ref (l : List Ev) (A : Option Addr) (c B0 N0 : Nat) (w : World) (hr0 : Row eEl B0 N0 w A l) (hN : N0 ≤ w.heap.size) (hc : l.length ≤ c) :
    Calls Try.prog 14 #[.slice A l.length c] w fun e w' => ∃ v, e = .returned v ∧ OwnR eEl 37 N0 w.heap.size w'.heap.size w' v (keepP (fun _ => true) l) ∧ Below w.heap.size w w' := by
  have hlen := hr0.lenE
  have hr := Q.mk hr0
  clear hr0
  go_enter Try.func14, Try.ntmps14
  go_wp2_with fail
  go_loopw [3, 4] (fun u i wr => ∃ j : Nat, j ≤ l.length ∧ i = .int .i64 j ∧ Q (OwnR eEl 37 N0 w.heap.size wr.heap.size wr u (selP (fun _ => true) l j)) ∧ Below w.heap.size w wr)
    (fun _ i _ => l.length - (intOf i).toNat)
  case atStart => exact ⟨0, Nat.zero_le _, rfl, ⟨OwnR.nil _ _ _ _ _ hN⟩, Below.refl _ _⟩
  case round =>
    obtain ⟨j, hj, rfl, hO, hB⟩ := hrel
    have hz := hB.size
    by_cases hlt : j < l.length
    · obtain ⟨b, o, e, Ae, ce, rfl, hbN, he, hEOk, x0, x1, x2, x3, x4, x5, x6, x7, x8, x9, x10, x11⟩ := (hr.out.below hB hN).atE j hlt
      have hsl := selP_len (fun _ => true) l j
      have HS : Q (selP (fun _ => true) l (j + 1) = selP (fun _ => true) l j ++ [e]) := ⟨selP_on _ l j hlt he rfl⟩
      replace hEOk := Q.mk hEOk
      clear he
      go_wp2_with (first
        | (go_at_call 63; refine (Copy_ref e.v Ae ce B0 N0 _ (hEOk.out.v.alloc (by omega) _) (by simp; omega)).mono ?_; rintro e2 w3 ⟨A4, c4, rfl, hv4, hb3⟩; replace hv4 := Q.mk hv4; have z3 := hb3.size; simp only [World.size_alloc] at z3; obtain ⟨p0, p1, p2, p3, p4, p5, p6, p7, p8, p9, p10, p11, pf⟩ := box12 (hb3.box (heap_alloc_new wr _) (by simp)))
        | (at_builtin; refine wpList_append1D _ rfl eEl (.tmp 20) (.tmp 22) 22 37 rfl Try.underlying22 infoE rfl (B1 := B0) (B' := wr.heap.size + 1) (N' := w3.heap.size) (y := e) (H := w3.heap.size) (by rfl) (by rfl) (heap_alloc_at _ _ (by simp only [size_set])) ((((((((hO.out.alloc hz _).below hb3 (by simp) (by simp; omega)).setCell (.inr ⟨by show N0 ≤ wr.heap.size; omega, Nat.le_refl _⟩) _).setCell (.inr ⟨by show N0 ≤ wr.heap.size; omega, Nat.le_refl _⟩) _).setCell (.inr ⟨by show N0 ≤ wr.heap.size; omega, Nat.le_refl _⟩) _).setCell (.inr ⟨by show N0 ≤ wr.heap.size; omega, Nat.le_refl _⟩) _).setCell (.inr ⟨by show N0 ≤ wr.heap.size; omega, Nat.le_refl _⟩) _).alloc (by simp only [size_set]; omega) _) (hv4.out.elim (fun h => .inl ⟨A4, c4, ⟨(h.set5 (.inr (by omega))).alloc (by simp only [size_set]; omega) _, hEOk.out.p, hEOk.out.o, hEOk.out.q⟩, rfl⟩) (fun h => .inr ⟨A4, c4, ⟨((h.mono (B' := wr.heap.size + 1) (by simp) (Nat.le_refl _)).set5 (.inl (Nat.lt_succ_self _))).alloc (by simp only [size_set]; omega) _, hEOk.out.p, hEOk.out.o, hEOk.out.q⟩, rfl⟩)) ⟨Nat.le_succ _, by omega⟩ (by simp only [World.size_alloc, size_set]; omega) (by simp only [World.size_alloc, size_set]; omega) (by decide) (by simp only [eEl]; omega) ?_; intro g1 c1 w4 hO4 hg4 hat4))
      have BW : Below w.heap.size w w4 := hO.out.below_grown (((((((hB.alloc hz _).trans (hb3.mono (by simp; omega))).set5 hz).alloc (by simp only [size_set]; omega) _)))) hg4 (Nat.le_refl _) (by simp only [World.size_alloc, size_set]; omega)
      clear hg4 hat4
      go_roundw
      case rel => exact ⟨j + 1, by omega, by go_num, ⟨by rw [HS.out]; exact hO4⟩, BW⟩
      case measure => simp [intOf] <;> omega
    · go_wp2
      go_ret
      obtain rfl : j = l.length := by omega
      exact ⟨_, rfl, hO.out, hB⟩
end Go.Proofs.Ytifakbipdmceiaa
end
