import Derived.Test.YtifakbipdmceiaaJLawA11
import Derived.Test.YtifakbipdmceiaaJLawA10
set_option linter.unusedVariables false
set_option linter.unusedSimpArgs false
namespace Go.Proofs.Ytifakbipdmceiaa
open Go.RowKit

set_option maxHeartbeats 2000000 in
set_option maxRecDepth 100000 in
theorem copied_ref (f : Nat) : ∀ (x : Val) (A : Option Addr) (c B0 N0 : Nat) (w : World), SizeOf.sizeOf x ≤ f → VOk B0 N0 w x A c → N0 ≤ w.heap.size →
    Calls Try.prog 108 #[.agg #[.int .i64 x.kind, .int .i64 x.int, .int .i64 x.im, .string x.text, .slice A x.items.length c]] w fun e w' => ∃ A' c', e = .returned (.agg #[.int .i64 x.kind, .int .i64 x.int, .int .i64 x.im, .string x.text, .slice A' x.items.length c']) ∧ VOk w.heap.size w'.heap.size w' x A' c' ∧ Below w.heap.size w w' := by
  induction f with
  | zero => intro x A c B0 N0 w hd; exfalso; have := x.size_pos; omega
  | succ f ih =>
  intro x A c B0 N0 w hd hx0 hN
  have IH := Lib.hid ih
  have hx := Q.mk hx0
  have hlen := hx0.len
  clear hx0 ih
  go_enter Try.func108, Try.ntmps108
  go_wp2_with fail
  go_loopw [3, 4] (fun u i wr => ∃ (j : Nat), j ≤ x.items.length ∧ i = .int .i64 j ∧ Q (wr.heap[w.heap.size]? = some (.cells #[.int .i64 x.kind, .int .i64 x.int, .int .i64 x.im, .string x.text, .slice A x.items.length c] 32 (0, 0))) ∧ Q (wr.heap[w.heap.size + 1]? = some (.cells #[.int .i64 0, .int .i64 0, .int .i64 0, .string ⟨#[]⟩, .slice none 0 0] 32 (0, 0))) ∧
      Q (Own vEl 32 (w.heap.size + 2) wr.heap.size wr u (x.items.take j)) ∧ Below w.heap.size w wr) (fun _ i _ => x.items.length - (intOf i).toNat)
  case atStart => exact ⟨0, Nat.zero_le _, rfl, ⟨heap_alloc2_old _ _ _⟩, ⟨heap_alloc2_new _ _ _⟩, ⟨Own.nil _ _ _ _⟩, ((Below.refl _ _).alloc (Nat.le_refl _) _).alloc (by simp) _⟩
  case round =>
    obtain ⟨j, hj, rfl, hb0, hb1, hO, hB⟩ := hrel
    obtain ⟨p0, p1, p2, p3, p4, pf⟩ := box5 hb0.out
    have hz := hB.size
    have hl0 := box_lt hb1.out
    have hl1 : w.heap.size < wr.heap.size := by omega
    by_cases hlt : j < x.items.length
    · obtain ⟨b, o, y, A', c', rfl, hbN, hy, hv, y0, y1, y2, y3, y4⟩ := (hx.out.row.below hB hN).atVv j hlt
      have hsz := Val.item_lt hlt hy
      have ht : (x.items.take j).length = j := List.length_take_of_le hj
      have e1 : Q (x.items.take (j + 1) = x.items.take j ++ [y]) := ⟨by rw [List.take_succ_eq_append_getElem hlt, hy]⟩
      obtain ⟨acc, hacc⟩ : ∃ acc, acc = x.items.take j := ⟨_, rfl⟩
      rw [← hacc] at hO ht e1
      replace hv := Q.mk hv
      clear hy hacc
      go_wp2_with (first
        | (go_at_call 108; refine (IH.out y A' c' B0 N0 _ (by omega) hv.out (by omega)).mono ?_; rintro e w2 ⟨A2, c2, rfl, hv2, hb2⟩; replace hv2 := Q.mk hv2)
        | (at_builtin; refine wpList_append1 _ rfl vEl (.tmp 12) (.tmp 19) 30 32 rfl Try.underlying30 infoV rfl (B := w.heap.size + 2) (N := wr.heap.size) (B' := wr.heap.size) (N' := w2.heap.size) (y := y) (H := w2.heap.size) (w.heap.size + 2) (by rfl) (by rfl) (heap_alloc_at _ _ rfl) ((hO.out.below hb2 (Nat.le_refl _)).alloc _) (hv2.out.alloc (Nat.le_refl _) _).rd (Or.inl (Nat.le_refl _)) (by simp) (Nat.le_refl _) (by omega) (by have := hb2.size; simp; omega) (by decide) (by simp only [vEl]; omega) ?_; intro g1 c1 w4 hO4 hg4 hat4))
      have z2 := hb2.size
      have BW : Below w.heap.size w w4 := hO.out.below_grown ((hB.trans (hb2.mono hz)).alloc (by omega) _) hg4 (by omega) (by simp; omega)
      have q0 : w4.heap[w.heap.size]? = _ := hO.out.block_far hg4 (box_alloc (hb2.box hb0.out (by omega)) _) (.inl (by omega))
      have q1 : w4.heap[w.heap.size + 1]? = _ := hO.out.block_far hg4 (box_alloc (hb2.box hb1.out (by omega)) _) (.inl (by omega))
      clear hg4 hat4
      go_roundw
      case rel => exact ⟨j + 1, by omega, by go_num, ⟨q0⟩, ⟨q1⟩, ⟨by rw [e1.out]; rw [ht] at hO4; exact hO4⟩, BW⟩
      case measure => simp [intOf]; omega
    · obtain ⟨z0, z1, z2, z3, z4, zf⟩ := box5 hb1.out
      obtain rfl : j = x.items.length := by omega
      obtain ⟨A2, c2, rfl, hc2, hro⟩ := hO.out.row
      rw [List.take_length] at *
      go_wp2_with fail
      have L0 : w.heap.size < w.heap.size + 2 := by omega
      have L1 : w.heap.size + 1 < w.heap.size + 2 := by omega
      have L2 : w.heap.size ≤ w.heap.size + 1 := by omega
      have L3 : w.heap.size < w.heap.size + 1 := by omega
      refine bodyPost_ret (results_cell_row rfl _ _ (w.heap.size + 1) 32 #[.int .i64 x.kind, .int .i64 x.int, .int .i64 x.im, .string x.text, .slice A2 x.items.length c2] (0, 0) _ rfl
        (box_set (box_set (box_set (box_set (box_set (box_far hb1.out (by simp) _) 0 _) 1 _) 2 _) 3 _) 4 _) Try.underlying32 rfl (by kernel_rfl)) rfl ⟨A2, c2, rfl, ?_, ?_⟩
      · refine ⟨?_, hx.out.txt, hc2⟩
        exact ((((((hro.set (.inl L0) _).set (.inl L1) _).set (.inl L1) _).set (.inl L1) _).set (.inl L1) _).set (.inl L1) _).mono (by omega) (by simp only [size_set]; omega)
      · exact (((((hB.setCell (Nat.le_refl _) _).setCell L2 _).setCell L2 _).setCell L2 _).setCell L2 _).setCell L2 _

set_option maxHeartbeats 2000000 in
set_option maxRecDepth 100000 in
theorem Copy_ref (x : Val) (A : Option Addr) (c B0 N0 : Nat) (w : World) (hx0 : VOk B0 N0 w x A c) (hN : N0 ≤ w.heap.size) :
    Calls Try.prog 63 #[.agg #[.int .i64 x.kind, .int .i64 x.int, .int .i64 x.im, .string x.text, .slice A x.items.length c]] w fun e w' => ∃ A' c', e = .returned (.agg #[.int .i64 x.kind, .int .i64 x.int, .int .i64 x.im, .string x.text, .slice A' x.items.length c']) ∧ (VOk B0 N0 w' x A' c' ∨ VOk w.heap.size w'.heap.size w' x A' c') ∧ Below w.heap.size w w' := by
  have hx := Q.mk hx0
  clear hx0
  obtain ⟨W0, hW0, b0, b1, BB, Z⟩ := boxes2 w (.cells #[.int .i64 x.kind, .int .i64 x.int, .int .i64 x.im, .string x.text, .slice A x.items.length c] 32) (.cells #[.int .i64 0, .int .i64 0, .int .i64 0, .string ⟨#[]⟩, .slice none 0 0] 32)
  replace hW0 := Q.mk hW0
  obtain ⟨n, hn⟩ : ∃ n, n = crV x 0 1 := ⟨_, rfl⟩
  replace hn := Q.mk hn
  by_cases h1 : 4096 < n
  all_goals
    go_enter Try.func63, Try.ntmps63
    go_wp2_with (first
      | (go_at_call 107; rw [← hW0.out]; clear hW0; refine (counted_ref _ x A c B0 N0 0 1 _ (Nat.le_refl _) (hx.out.below BB hN) (by omega) (by omega) (by omega) (by omega) (by omega)).mono ?_; rw [← hn.out]; rintro e w2 ⟨rfl, hb2⟩; have z2 := hb2.size; obtain ⟨p0, p1, p2, p3, p4, pf⟩ := box5 (hb2.box b0.out (by omega)); obtain ⟨q0, q1, q2, q3, q4, qf⟩ := box5 (hb2.box b1.out (by omega)))
      | (go_at_call 108; refine (copied_ref _ x A c B0 N0 _ (Nat.le_refl _) ((hx.out.below BB hN).below hb2 (by omega)) (by omega)).mono ?_; rintro e w3 ⟨A3, c3, rfl, hv3, hb3⟩; replace hv3 := Q.mk hv3; have z3 := hb3.size; obtain ⟨r0, r1, r2, r3, r4, rf⟩ := box5 (hb3.box (hb2.box b1.out (by omega)) (by omega))))
  · have L1 : w.heap.size + 1 < w.heap.size + 2 := by omega
    have L2 : w.heap.size ≤ w.heap.size + 1 := by omega
    have BW : Below w.heap.size w w2 := BB.trans (hb2.mono (by omega))
    have hv : VOk B0 N0 w2 x A c := hx.out.below BW hN
    refine bodyPost_ret (results_cell_row rfl _ _ (w.heap.size + 1) 32 #[.int .i64 x.kind, .int .i64 x.int, .int .i64 x.im, .string x.text, .slice A x.items.length c] (0, 0) _ rfl
      (box_set (box_set (box_set (box_set (box_set (hb2.box b1.out (by omega)) 0 _) 1 _) 2 _) 3 _) 4 _) Try.underlying32 rfl (by kernel_rfl)) rfl ⟨A, c, rfl, .inl ?_, ?_⟩
    · exact ((((hv.set (.inr (Nat.le_succ_of_le hN)) _).set (.inr (Nat.le_succ_of_le hN)) _).set (.inr (Nat.le_succ_of_le hN)) _).set (.inr (Nat.le_succ_of_le hN)) _).set (.inr (Nat.le_succ_of_le hN)) _
    · exact ((((BW.setCell L2 _).setCell L2 _).setCell L2 _).setCell L2 _).setCell L2 _
  · have L1 : w.heap.size + 1 < w2.heap.size := by omega
    have L2 : w.heap.size ≤ w.heap.size + 1 := by omega
    have BW : Below w.heap.size w w3 := (BB.trans (hb2.mono (by omega))).trans (hb3.mono (by omega))
    refine bodyPost_ret (results_cell_row rfl _ _ (w.heap.size + 1) 32 #[.int .i64 x.kind, .int .i64 x.int, .int .i64 x.im, .string x.text, .slice A3 x.items.length c3] (0, 0) _ rfl
      (box_set (box_set (box_set (box_set (box_set (hb3.box (hb2.box b1.out (by omega)) (by omega)) 0 _) 1 _) 2 _) 3 _) 4 _) Try.underlying32 rfl (by kernel_rfl)) rfl ⟨A3, c3, rfl, .inr ?_, ?_⟩
    · exact (((((hv3.out.set (.inl L1) _).set (.inl L1) _).set (.inl L1) _).set (.inl L1) _).set (.inl L1) _).mono (by omega) (by simp only [size_set]; omega)
    · exact ((((BW.setCell L2 _).setCell L2 _).setCell L2 _).setCell L2 _).setCell L2 _
end Go.Proofs.Ytifakbipdmceiaa
