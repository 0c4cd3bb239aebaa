import Derived.Test.YtifakbipdmceiaaJLawA47
set_option linter.unusedVariables false
set_option linter.unusedSimpArgs false
namespace Go.Proofs.Ytifakbipdmceiaa
open Go.RowKit Go.Proofs.YtifakbipdmceiaaW.PrintLast

theorem calls_gen {P : Program} {f : FuncId} {args : Array Value} (X : World) {R : Ending → World → Prop} (h : ∀ W, W = X → Calls P f args W R) : Calls P f args X R := h X rfl

set_option maxHeartbeats 4000000 in
set_option maxRecDepth 100000 in
theorem alive_any (w : World) : Calls Try.prog 27 #[] w fun e w' => e = .returned (.bool true) ∧ Below w.heap.size w w' := by
  have BC : Below w.heap.size w w := Below.refl _ _
  go_enter Try.func27, Try.ntmps27
  go_wp2_with (first
    | (go_at_call 76; refine (inv_any _ _ _ _).mono ?_; rintro e wn ⟨rfl, hb⟩; replace BC := BC.trans (hb.mono BC.size); clear hb)
    | (go_at_call 77; refine (res_any _ _ _).mono ?_; rintro e wn ⟨rfl, hb⟩; replace BC := BC.trans (hb.mono BC.size); (try replace BH := BH.trans (hb.mono BH.size)); (try replace BO := BO.trans (hb.mono BO.size)); (try replace BW := BW.trans (hb.mono BW.size)); clear hb)
    | (go_at_call 19; refine calls_gen _ ?_; intro Wh hWh; have R := Q.mk (hE_row (w := Wh) (by rw [hWh]; exact heap_alloc_new _ _)); replace BC : Below w.heap.size w Wh := (by rw [hWh]; exact BC.alloc BC.size _); have BH : Below Wh.heap.size Wh Wh := Below.refl _ _; have lN := Nat.le_of_eq (show _ + 1 = Wh.heap.size from by rw [hWh, World.size_alloc]); clear hWh; generalize wn.heap.size = bh at R lN ⊢; refine (alive_objects R.out lN).mono ?_; rintro e Wo ⟨bo, oo, co0, rfl, lo, co, hb⟩; replace co := Q.mk co; replace BC := BC.trans (hb.mono BC.size); replace BH := BH.trans (hb.mono BH.size); have BO : Below Wo.heap.size Wo Wo := Below.refl _ _; clear hb)
    | (go_at_call 15; refine (alive_object (R.out.below BH lN) (Nat.le_trans lN BH.size)).mono ?_; rintro e wn ⟨Ax, cx, rfl, hb⟩; replace BC := BC.trans (hb.mono BC.size); replace BH := BH.trans (hb.mono BH.size); replace BO := BO.trans (hb.mono BO.size); clear hb)
    | (go_at_call 17; refine (alive_whole (R.out.below BH lN) (Nat.le_trans lN BH.size)).mono ?_; rintro e Ww ⟨Aw, cw, rfl, hcw, RW, hb⟩; replace RW := Q.mk RW; replace BC := BC.trans (hb.mono BC.size); replace BH := BH.trans (hb.mono BH.size); replace BO := BO.trans (hb.mono BO.size); have BW : Below Ww.heap.size Ww Ww := Below.refl _ _; clear hb)
    | (go_at_call 28; refine calls_gen _ ?_; intro Wa hWa; have R1 := Q.mk (rE_row (w := Wa) (p := 113) (n := 6) (by rw [hWa]; exact heap_alloc_new _ _)); have lNa := Nat.le_of_eq (show _ + 1 = Wa.heap.size from by rw [hWa, World.size_alloc]); replace BC : Below w.heap.size w Wa := (by rw [hWa]; exact BC.alloc BC.size _); replace BH : Below Wh.heap.size Wh Wa := (by rw [hWa]; exact BH.alloc BH.size _); replace BO : Below Wo.heap.size Wo Wa := (by rw [hWa]; exact BO.alloc BO.size _); replace BW : Below Ww.heap.size Ww Wa := (by rw [hWa]; exact BW.alloc BW.size _); clear hWa; refine (alive_ans1 ((R.out.below BH lN).mono (Nat.le_refl _) (Nat.le_trans lN BH.size)) (R1.out.mono (Nat.le_refl _) lNa) (Nat.le_refl _)).mono ?_; rintro e wn ⟨Aa, ca, rfl, hb⟩; replace BC := BC.trans (hb.mono BC.size); replace BH := BH.trans (hb.mono BH.size); replace BO := BO.trans (hb.mono BO.size); replace BW := BW.trans (hb.mono BW.size); clear hb R1 lNa)
    | (go_at_call 28; refine calls_gen _ ?_; intro Wa hWa; have R1 := Q.mk (rE_row (w := Wa) (p := 112) (n := 6) (by rw [hWa]; exact heap_alloc_new _ _)); have lNa := Nat.le_of_eq (show _ + 1 = Wa.heap.size from by rw [hWa, World.size_alloc]); replace BC : Below w.heap.size w Wa := (by rw [hWa]; exact BC.alloc BC.size _); replace BH : Below Wh.heap.size Wh Wa := (by rw [hWa]; exact BH.alloc BH.size _); replace BO : Below Wo.heap.size Wo Wa := (by rw [hWa]; exact BO.alloc BO.size _); replace BW : Below Ww.heap.size Ww Wa := (by rw [hWa]; exact BW.alloc BW.size _); clear hWa; refine (alive_ans2 ((R.out.below BH lN).mono (Nat.le_refl _) (Nat.le_trans lN BH.size)) (R1.out.mono (Nat.le_refl _) lNa) (Nat.le_refl _)).mono ?_; rintro e W7 ⟨rfl, hb⟩; replace BC := BC.trans (hb.mono BC.size); replace BH := BH.trans (hb.mono BH.size); replace BO := BO.trans (hb.mono BO.size); replace BW := BW.trans (hb.mono BW.size); clear hb R1 lNa))
  refine start_ (n := 6) (S := fun w' => Below W7.heap.size W7 w' ∧ True) (ds := []) #[false, false, false, false, false, false] (by kernel_rfl) rfl rfl ⟨(Below.refl _ _).drew, trivial⟩ (fun hHeld => ?_)
  refine pure_ (i := 0) (N := some 36) (v := ?_) (a' := ?_) #[true, false, false, false, false, false] rfl rfl (by kernel_rfl) (fun _ _ _ h => h) (Or.inl ⟨by rfl, ?_⟩) ?_ ?_
  rotate_left
  · intro w'
    go_simp
    with_reducible rfl
  rotate_left
  · simp only [Act.put, List.setIfInBounds_toArray, List.set_cons_zero, List.set_cons_succ, i64_w, i32_w]
    rfl
  refine pure_ (i := 1) (N := some 37) (v := ?_) (a' := ?_) #[true, true, false, false, false, false] rfl rfl (by kernel_rfl) (fun _ _ _ h => h) (Or.inl ⟨by rfl, ?_⟩) ?_ ?_
  rotate_left
  · intro w'
    go_simp
    with_reducible rfl
  rotate_left
  · simp only [Act.put, List.setIfInBounds_toArray, List.set_cons_zero, List.set_cons_succ, i64_w, i32_w]
    rfl
  refine pure_ (i := 2) (N := some 38) (v := ?_) (a' := ?_) #[true, true, true, false, false, false] rfl rfl (by kernel_rfl) (fun _ _ _ h => h) (Or.inl ⟨by rfl, ?_⟩) ?_ ?_
  rotate_left
  · intro w'
    go_simp
    with_reducible rfl
  rotate_left
  · simp only [Act.put, List.setIfInBounds_toArray, List.set_cons_zero, List.set_cons_succ, i64_w, i32_w]
    rfl
  refine pure_ (i := 3) (N := some 39) (v := ?_) (a' := ?_) #[true, true, true, true, false, false] rfl rfl (by kernel_rfl) (fun _ _ _ h => h) (Or.inl ⟨by rfl, ?_⟩) ?_ ?_
  rotate_left
  · intro w'
    go_simp
    with_reducible rfl
  rotate_left
  · simp only [Act.put, List.setIfInBounds_toArray, List.set_cons_zero, List.set_cons_succ, i64_w, i32_w]
    rfl
  refine one_ (i := 4) (N := some 40) #[true, true, true, true, true, false] rfl rfl (by kernel_rfl) (by decide) (fun K hK => ?_)
  refine goes_ Try.func38 (by kernel_rfl) rfl #[.slice (some ⟨bh, 0, none⟩) 2 5, .slice (some ⟨bh, 24, none⟩) 1 3, .int .i64 9] (by rfl) rfl rfl (by (try simp only [List.map_toArray, List.map_cons, List.map_nil]); first | done | rfl) ?_
  refine (alive_rows (R.out.below BH lN).drew (Nat.le_trans lN BH.size)).mono ?_
  rintro e W9 ⟨bm, om, cm, b1, o1, c1, rfl, lm, l1, cm1, cp1, hb⟩
  refine ⟨_, rfl, ?_⟩
  refine hK.out _ _ ⟨(Below.refl _ _).drew.trans hb, trivial⟩ (fun hHeld => ?_)
  clear hK K
  refine norm_ (a' := ?_) ?_ ?_
  rotate_left
  · show Act.put _ (some 40) _ = _
    simp only [Act.put, List.setIfInBounds_toArray, List.set_cons_zero, List.set_cons_succ, i64_w, i32_w]
    rfl
  refine pure_ (i := 5) (N := some 9) (v := ?_) (a' := ?_) #[true, true, true, true, true, true] rfl rfl (by kernel_rfl) (fun _ _ _ h => h) (Or.inl ⟨by rfl, ?_⟩) ?_ ?_
  rotate_left
  · intro w'
    go_simp
    with_reducible rfl
  rotate_left
  · simp only [Act.put, List.setIfInBounds_toArray, List.set_cons_zero, List.set_cons_succ, i64_w, i32_w]
    rfl
  refine done_ (by kernel_rfl) ?_
  have hb9 : Below W7.heap.size W7 W9 := hHeld.1
  have BH9 : Below Wh.heap.size Wh W9 := BH.trans (hb9.mono BH.size)
  have BO9 : Below Wo.heap.size Wo W9 := BO.trans (hb9.mono BO.size)
  have BW9 : Below Ww.heap.size Ww W9 := BW.trans (hb9.mono BW.size)
  have BC9 : Below w.heap.size w W9 := BC.trans (hb9.mono BC.size)
  have HS : Q (∀ w', Below W9.heap.size W9 w' → Below W9.heap.size W9 w' ∧ w'.cell? ⟨bo, oo + 1, none⟩ = some (.string ⟨#[121]⟩) ∧ w'.cell? ⟨bm, om + 1, none⟩ = some (.slice (some ⟨b1, o1, none⟩) 3 c1) ∧ w'.cell? ⟨b1, o1 + 12 + 1, none⟩ = some (.string ⟨#[113]⟩)) :=
    ⟨fun w' h => ⟨h, ((BO9.trans (h.mono BO9.size)).cell (p := ⟨bo, _, none⟩) lo).trans co.out, (h.cell (p := ⟨bm, _, none⟩) lm).trans cm1, (h.cell (p := ⟨b1, _, none⟩) l1).trans cp1⟩⟩
  clear cm1 cp1 hHeld hb BH BO BW BC
  obtain ⟨_, co9, _, _⟩ := HS.out W9 (Below.refl _ _)
  have BX : Below W9.heap.size W9 W9 := Below.refl _ _
  go_wp2_with (first
    | (go_at_call 21; refine (alive_procs (R.out.below (BH9.trans (BX.mono BH9.size)) lN) (Nat.le_trans lN (Nat.le_trans BH9.size BX.size))).mono ?_; rintro e W10 ⟨Ap, cp, rfl, hb⟩; replace BX := BX.trans (hb.mono BX.size); clear hb; obtain ⟨_, _, cm10, cp10⟩ := HS.out W10 BX)
    | (go_at_call 30; refine (num_any _ _).mono ?_; rintro e wx ⟨rfl, rfl⟩)
    | (go_at_call 31; with_reducible refine (alive_alike (R.out.below (BH9.trans (BX.mono BH9.size)) lN) (Nat.le_trans lN (Nat.le_trans BH9.size BX.size))).mono ?_; rintro e W11 ⟨rfl, hb⟩; replace BX := BX.trans (hb.mono BX.size); clear hb)
    | (go_at_call 33; refine (alive_keeps (R.out.below (BH9.trans (BX.mono BH9.size)) lN) (Nat.le_trans lN (Nat.le_trans BH9.size BX.size))).mono ?_; rintro e W12 ⟨rfl, hb⟩; replace BX := BX.trans (hb.mono BX.size); clear hb)
    | (go_at_call 31; with_reducible refine (alive_unlike ((R.out.below (BH9.trans (BX.mono BH9.size)) lN).mono (Nat.le_refl _) (Nat.le_trans lN (Nat.le_trans BH9.size BX.size))) ((RW.out.below (BW9.trans (BX.mono BW9.size)) (Nat.le_refl _)).mono (Nat.le_refl _) (Nat.le_trans BW9.size BX.size)) hcw (Nat.le_refl _)).mono ?_; rintro e W13 ⟨rfl, hb⟩; replace BX := BX.trans (hb.mono BX.size); clear hb)
    | (go_at_call 16; refine (alive_proc (R.out.below (BH9.trans (BX.mono BH9.size)) lN) (Nat.le_trans lN (Nat.le_trans BH9.size BX.size))).mono ?_; rintro e W14 ⟨Aq, cq, rfl, hb⟩; replace BX := BX.trans (hb.mono BX.size); clear hb))
  go_ret
  exact ⟨rfl, BC9.trans (BX.mono BC9.size)⟩
end Go.Proofs.Ytifakbipdmceiaa
