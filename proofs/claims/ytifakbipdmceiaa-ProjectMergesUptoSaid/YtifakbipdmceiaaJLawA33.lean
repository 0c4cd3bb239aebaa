import Derived.Test.YtifakbipdmceiaaJLawA32
import Derived.Laws.EntriesVeiled
set_option linter.unusedVariables false
set_option linter.unusedSimpArgs false
namespace Go.Proofs.Ytifakbipdmceiaa
open Go.RowKit Go.Proofs.YtifakbipdmceiaaW.PrintLast

/-! ### Merges: the two copies and their boxes, in whatever order -/
structure MRow (x : List Ev) (K : Nat) (W : World) (v : Value) (o6 o7 : Option Nat) : Prop where
  h : ∃ A c B N, v = .slice A x.length c ∧ x.length ≤ c ∧ K ≤ B ∧ N ≤ W.heap.size ∧ Row eEl B N W A x ∧ (∀ b, o6 = some b → b < B ∨ N ≤ b) ∧ (∀ b, o7 = some b → b < B ∨ N ≤ b)
structure MBox (K : Nat) (W : World) (b : Nat) : Prop where
  lo : K ≤ b
  h : W.heap[b]? = some (.cells #[.slice none 0 0] 22 (0, 0))
structure MInv (x y : List Ev) (W0 : World) (o10 o13 : Option Value) (o6 o7 : Option Nat) (W : World) : Prop where
  bel : Below W0.heap.size W0 W
  r10 : ∀ v, o10 = some v → MRow x W0.heap.size W v o6 o7
  r13 : ∀ v, o13 = some v → MRow y W0.heap.size W v o6 o7
  b6 : ∀ b, o6 = some b → MBox W0.heap.size W b
  b7 : ∀ b, o7 = some b → MBox W0.heap.size W b
  ne : ∀ b c, o6 = some b → o7 = some c → b ≠ c
theorem MRow.alloc {x : List Ev} {K : Nat} {W : World} {v : Value} {o6 o7 : Option Nat} (h : MRow x K W v o6 o7) (o : Obj) {p6 p7 : Option Nat} (h6 : ∀ b, p6 = some b → o6 = some b ∨ b = W.heap.size) (h7 : ∀ b, p7 = some b → o7 = some b ∨ b = W.heap.size) : MRow x K (W.alloc o) v p6 p7 := by
  obtain ⟨A, c, B, N, e, hc, hK, hN, hr, g6, g7⟩ := h.h
  refine ⟨A, c, B, N, e, hc, hK, by simp; omega, hr.alloc hN o, fun b hb => ?_, fun b hb => ?_⟩
  · rcases h6 b hb with h | rfl; exact g6 b h; exact .inr hN
  · rcases h7 b hb with h | rfl; exact g7 b h; exact .inr hN
theorem MRow.below {x : List Ev} {K : Nat} {W W2 : World} {v : Value} {o6 o7 : Option Nat} (h : MRow x K W v o6 o7) (hb : Below W.heap.size W W2) : MRow x K W2 v o6 o7 := by
  obtain ⟨A, c, B, N, e, hc, hK, hN, hr, g6, g7⟩ := h.h
  exact ⟨A, c, B, N, e, hc, hK, Nat.le_trans hN hb.size, hr.below hb hN, g6, g7⟩
theorem MRow.new {x : List Ev} {K : Nat} {W W2 : World} {v : Value} {o6 o7 : Option Nat} (hK : K ≤ W.heap.size) (ho : Own eEl 37 W.heap.size W2.heap.size W2 v x) (h6 : ∀ b, o6 = some b → b < W.heap.size) (h7 : ∀ b, o7 = some b → b < W.heap.size) : MRow x K W2 v o6 o7 := by
  obtain ⟨A, c, e, hc, hr⟩ := ho.row
  exact ⟨A, c, W.heap.size, W2.heap.size, e, hc, hK, Nat.le_refl _, hr, fun b hb => .inl (h6 b hb), fun b hb => .inl (h7 b hb)⟩
theorem MBox.alloc {K : Nat} {W : World} {b : Nat} (h : MBox K W b) (o : Obj) : MBox K (W.alloc o) b := ⟨h.lo, box_alloc h.h o⟩
theorem MBox.below {K : Nat} {W W2 : World} {b : Nat} (h : MBox K W b) (hb : Below W.heap.size W W2) : MBox K W2 b := ⟨h.lo, hb.box h.h (box_lt h.h)⟩
section
variable {x y : List Ev} {W0 W W2 : World} {o10 o13 : Option Value} {o6 o7 : Option Nat} {v : Value}
theorem MInv.start (x y : List Ev) (W0 : World) : MInv x y W0 none none none none W0.drew :=
  ⟨(Below.refl _ _).drew, fun _ h => (by cases h), fun _ h => (by cases h), fun _ h => (by cases h), fun _ h => (by cases h), fun _ _ h => (by cases h)⟩
theorem MInv.a6 (h : MInv x y W0 o10 o13 none o7 W) (e : W2 = W.alloc (.cells #[.slice none 0 0] 22)) : MInv x y W0 o10 o13 (some W.heap.size) o7 W2 := by
  subst e
  have hz := h.bel.size
  refine ⟨h.bel.alloc hz _, fun v hv => (h.r10 v hv).alloc _ (fun b hb => .inr (by cases hb; rfl)) (fun b hb => .inl hb), fun v hv => (h.r13 v hv).alloc _ (fun b hb => .inr (by cases hb; rfl)) (fun b hb => .inl hb), fun b hb => ?_, fun b hb => (h.b7 b hb).alloc _, fun b c hb hc => ?_⟩
  · cases hb; exact ⟨hz, heap_alloc_new _ _⟩
  · cases hb; have := box_lt (h.b7 c hc).h; omega
theorem MInv.a7 (h : MInv x y W0 o10 o13 o6 none W) (e : W2 = W.alloc (.cells #[.slice none 0 0] 22)) : MInv x y W0 o10 o13 o6 (some W.heap.size) W2 := by
  subst e
  have hz := h.bel.size
  refine ⟨h.bel.alloc hz _, fun v hv => (h.r10 v hv).alloc _ (fun b hb => .inl hb) (fun b hb => .inr (by cases hb; rfl)), fun v hv => (h.r13 v hv).alloc _ (fun b hb => .inl hb) (fun b hb => .inr (by cases hb; rfl)), fun b hb => (h.b6 b hb).alloc _, fun b hb => ?_, fun b c hb hc => ?_⟩
  · cases hb; exact ⟨hz, heap_alloc_new _ _⟩
  · cases hc; have := box_lt (h.b6 b hb).h; omega
theorem MInv.c10 (h : MInv x y W0 none o13 o6 o7 W) (ho : Own eEl 37 W.heap.size W2.heap.size W2 v x) (hb : Below W.heap.size W W2) : MInv x y W0 (some v) o13 o6 o7 W2 := by
  have hz := h.bel.size
  refine ⟨h.bel.trans (hb.mono hz), fun u hu => ?_, fun u hu => (h.r13 u hu).below hb, fun b h6 => (h.b6 b h6).below hb, fun b h7 => (h.b7 b h7).below hb, h.ne⟩
  cases hu
  exact MRow.new hz ho (fun b hb' => box_lt (h.b6 b hb').h) (fun b hb' => box_lt (h.b7 b hb').h)
theorem MInv.c13 (h : MInv x y W0 o10 none o6 o7 W) (ho : Own eEl 37 W.heap.size W2.heap.size W2 v y) (hb : Below W.heap.size W W2) : MInv x y W0 o10 (some v) o6 o7 W2 := by
  have hz := h.bel.size
  refine ⟨h.bel.trans (hb.mono hz), fun u hu => (h.r10 u hu).below hb, fun u hu => ?_, fun b h6 => (h.b6 b h6).below hb, fun b h7 => (h.b7 b h7).below hb, h.ne⟩
  cases hu
  exact MRow.new hz ho (fun b hb' => box_lt (h.b6 b hb').h) (fun b hb' => box_lt (h.b7 b hb').h)
end
/-- What Merges has laid down. -/
structure MSt (x y : List Ev) (Ax Ay : Option Addr) (cx cy bx bY ba K1 K2 : Nat) (W : World) : Prop where
  hx : W.heap[bx]? = some (.cells #[.slice Ax x.length cx] 22 (0, 0))
  hy : W.heap[bY]? = some (.cells #[.slice Ay y.length cy] 22 (0, 0))
  ha : W.heap[ba]? = some (.cells #[.func (.func 88) #[] #[]] 95 (0, 0))
  rx : Row eEl K1 K2 W Ax x
  ry : Row eEl K1 K2 W Ay y
  bx : K1 ≤ bx ∧ bx < K2
  bY : K1 ≤ bY ∧ bY < K2
  ba : K1 ≤ ba ∧ ba < K2
  cx : x.length ≤ cx
  cy : y.length ≤ cy
theorem MInv.final {x y : List Ev} {w W0 W : World} {v u : Value} {b c : Nat} (h : MInv x y W0 (some v) (some u) (some b) (some c) W) (e0 : W0 = w.alloc (.cells #[.func (.func 88) #[] #[]] 95)) :
    ∃ Ax Ay cx cy, MSt x y Ax Ay cx cy b c w.heap.size w.heap.size W.heap.size ((W.setCell ⟨b, 0, none⟩ v).setCell ⟨c, 0, none⟩ u) := by
  subst e0
  have hz := h.bel.size
  obtain ⟨A, cx, B, N, rfl, hc, hK, hN, hr, g6, g7⟩ := (h.r10 v rfl).h
  obtain ⟨A', cy, B', N', rfl, hc', hK', hN', hr', g6', g7'⟩ := (h.r13 u rfl).h
  have h6 := h.b6 b rfl
  have h7 := h.b7 c rfl
  have l6 := box_lt h6.h
  have l7 := box_lt h7.h
  have m6 := h6.lo
  have m7 := h7.lo
  have ne := h.ne b c rfl rfl
  simp only [World.size_alloc] at hz hK hK' m6 m7
  refine ⟨A, A', cx, cy, ⟨box_far (box_set h6.h 0 _) ne _, box_set (box_far h7.h (Ne.symm ne) _) 0 _, ?_, ((hr.set (g6 b rfl) _).set (g7 c rfl) _).mono (by omega) hN, ((hr'.set (g6' b rfl) _).set (g7' c rfl) _).mono (by omega) hN', ⟨by omega, l6⟩, ⟨by omega, l7⟩, ⟨Nat.le_refl _, by omega⟩, hc, hc'⟩⟩
  exact box_far (box_far (h.bel.box (heap_alloc_new w _) (by simp)) (by show w.heap.size ≠ b; omega) _) (by show w.heap.size ≠ c; omega) _

set_option maxHeartbeats 2000000 in
set_option maxRecDepth 100000 in
theorem merges_any (x y : List Ev) (A A' : Option Addr) (c c' B0 N0 : Nat) (w : World) (hx0 : Row eEl B0 N0 w A x) (hy0 : Row eEl B0 N0 w A' y) (hN : N0 ≤ w.heap.size) (hc : x.length ≤ c) (hc' : y.length ≤ c') :
    Calls Try.prog 36 #[.slice A x.length c, .slice A' y.length c'] w fun e w' => ∃ Ax Ay cx cy bx bY ba, e = .returned (.func (.func 89) #[] #[.pointer (some ⟨bx, 0, none⟩), .pointer (some ⟨bY, 0, none⟩), .pointer (some ⟨ba, 0, none⟩)]) ∧
      Below w.heap.size w w' ∧ MSt x y Ax Ay cx cy bx bY ba w.heap.size w'.heap.size w' := by
  obtain ⟨W0, hW0, b0, BB, Z⟩ := boxes1 w (.cells #[.func (.func 88) #[] #[]] 95)
  have HX : Q (∀ W, Below W0.heap.size W0 W → Calls Try.prog 65 #[.slice A x.length c, .func (.func 88) #[] #[]] W fun e w' => ∃ v, e = .returned v ∧ Own eEl 37 W.heap.size w'.heap.size w' v x ∧ Below W.heap.size W w') := ⟨fun W hb => by
    have := those_e x A c B0 N0 W (fun _ => true) ((hx0.below BB hN).below hb (by omega)) (by have := hb.size; omega) hc (fun j w1 _ _ => Merges1_any j w1)
    rwa [keepP_true] at this⟩
  have HY : Q (∀ W, Below W0.heap.size W0 W → Calls Try.prog 65 #[.slice A' y.length c', .func (.func 88) #[] #[]] W fun e w' => ∃ v, e = .returned v ∧ Own eEl 37 W.heap.size w'.heap.size w' v y ∧ Below W.heap.size W w') := ⟨fun W hb => by
    have := those_e y A' c' B0 N0 W (fun _ => true) ((hy0.below BB hN).below hb (by omega)) (by have := hb.size; omega) hc' (fun j w1 _ _ => Merges1_any j w1)
    rwa [keepP_true] at this⟩
  have p0 := box_cells b0.out 0
  have hI0 := MInv.start x y W0
  have hW := Q.mk hW0
  have Z1 : w.heap.size < W0.heap.size := by omega
  replace Z := Q.mk Z
  clear hx0 hy0
  go_enter Try.func36, Try.ntmps36
  go_wp2
  rw [← hW0]
  clear hW0
  have hI : MInv x y W0 none none none none W0.drew := hI0
  refine start_ (n := 10) (S := fun w' => w'.cell? ⟨w.heap.size, 0, none⟩ = some (.func (.func 88) #[] #[]) ∧ True) (ds := [8, 9]) #[false, false, false, false, false, false, false, false, false, false] (by kernel_rfl) rfl rfl ⟨p0, trivial⟩ (fun hHeld => ?_)
  refine pure_ (i := 0) (N := some 8) (v := ?_) (a' := ?_) #[true, false, false, false, false, false, false, false, false, false] rfl rfl (by kernel_rfl) (fun _ _ _ h => h) (Or.inl ⟨by rfl, ?_⟩) ?_ ?_
  rotate_left
  · intro w'
    go_simp
    with_reducible rfl
  rotate_left
  · simp only [Act.put, List.setIfInBounds_toArray, List.set_cons_zero, List.set_cons_succ, i64_w, i32_w]
    rfl
  refine take_ (i := 1) (N := some 9) (v := ?_) (a' := ?_) #[true, true, false, false, false, false, false, false, false, false] rfl rfl (by kernel_rfl) (fun _ _ _ h => h) (Or.inl ⟨by rfl, ?_⟩) hHeld ?_ ?_
  rotate_left
  · rintro w' ⟨s0_, s1_⟩
    go_simp
    with_reducible rfl
  rotate_left
  · simp only [Act.put, List.setIfInBounds_toArray, List.set_cons_zero, List.set_cons_succ, i64_w, i32_w]
    rfl
  refine pure_ (i := 3) (N := some 11) (v := ?_) (a' := ?_) #[true, true, false, true, false, false, false, false, false, false] rfl rfl (by kernel_rfl) (fun _ _ _ h => h) (Or.inl ⟨by rfl, ?_⟩) ?_ ?_
  rotate_left
  · intro w'
    go_simp
    with_reducible rfl
  rotate_left
  · simp only [Act.put, List.setIfInBounds_toArray, List.set_cons_zero, List.set_cons_succ, i64_w, i32_w]
    rfl
  refine take_ (i := 4) (N := some 12) (v := ?_) (a' := ?_) #[true, true, false, true, true, false, false, false, false, false] rfl rfl (by kernel_rfl) (fun _ _ _ h => h) (Or.inl ⟨by rfl, ?_⟩) hHeld ?_ ?_
  rotate_left
  · rintro w' ⟨s0_, s1_⟩
    go_simp
    with_reducible rfl
  rotate_left
  · simp only [Act.put, List.setIfInBounds_toArray, List.set_cons_zero, List.set_cons_succ, i64_w, i32_w]
    rfl
  refine join_ (σ := Value × Value × Nat × Nat) 2 #[true, true, true, true, true, true, true, true, false, false] (fun s => [(10, s.1), (13, s.2.1), (6, .pointer (some ⟨s.2.2.1, 0, none⟩)), (7, .pointer (some ⟨s.2.2.2, 0, none⟩))]) (fun s w' => Q (MInv x y W0 (some s.1) (some s.2.1) (some s.2.2.1) (some s.2.2.2) w')) ?cont_ ?tree_
  case tree_ =>
    intro hj_
    obtain ⟨W0_, hWr⟩ : ∃ V, V = W0.drew := ⟨_, rfl⟩
    rw [← hWr]
    rw [← hWr] at hI
    clear hWr
    refine three_ (i := 2) (j := 6) (k := 7) (Ni := some 10) (Nj := some 6) (Nk := some 7) #[true, true, true, true, true, false, false, false, false, false] #[true, true, false, true, true, false, true, false, false, false] #[true, true, false, true, true, false, false, true, false, false] rfl rfl rfl rfl rfl rfl (by kernel_rfl) (by decide) (by decide) (by decide) ?_ ?_ ?_
    · intro K hK
      refine goes_ Try.func65 (by kernel_rfl) rfl #[.slice A x.length c, .func (.func 88) #[] #[]] (by rfl) rfl rfl (by (try simp only [List.map_toArray, List.map_cons, List.map_nil]); first | done | rfl) ?_
      refine (HX.out _ hI.bel).mono ?_
      rintro e W1_ ⟨v10, rfl, ho, hb⟩
      replace hI := hI.c10 ho hb
      clear ho hb
      refine ⟨_, rfl, ?_⟩
      refine hK.out _ _ ⟨(hI.bel.cell (p := ⟨w.heap.size, 0, none⟩) Z1).trans p0, trivial⟩ (fun hHeld => ?_)
      clear hK K
      refine norm_ (a' := ?_) ?_ ?_
      rotate_left
      · show Act.put _ (some 10) _ = _
        simp only [Act.put, List.setIfInBounds_toArray, List.set_cons_zero, List.set_cons_succ, i64_w, i32_w]
        rfl
      refine three_ (i := 5) (j := 6) (k := 7) (Ni := some 13) (Nj := some 6) (Nk := some 7) #[true, true, true, true, true, true, false, false, false, false] #[true, true, true, true, true, false, true, false, false, false] #[true, true, true, true, true, false, false, true, false, false] rfl rfl rfl rfl rfl rfl (by kernel_rfl) (by decide) (by decide) (by decide) ?_ ?_ ?_
      · intro K hK
        refine goes_ Try.func65 (by kernel_rfl) rfl #[.slice A' y.length c', .func (.func 88) #[] #[]] (by rfl) rfl rfl (by (try simp only [List.map_toArray, List.map_cons, List.map_nil]); first | done | rfl) ?_
        refine (HY.out _ hI.bel).mono ?_
        rintro e W2_ ⟨v13, rfl, ho, hb⟩
        replace hI := hI.c13 ho hb
        clear ho hb
        refine ⟨_, rfl, ?_⟩
        refine hK.out _ _ ⟨(hI.bel.cell (p := ⟨w.heap.size, 0, none⟩) Z1).trans p0, trivial⟩ (fun hHeld => ?_)
        clear hK K
        refine norm_ (a' := ?_) ?_ ?_
        rotate_left
        · show Act.put _ (some 13) _ = _
          simp only [Act.put, List.setIfInBounds_toArray, List.set_cons_zero, List.set_cons_succ, i64_w, i32_w]
          rfl
        refine two_ (i := 6) (j := 7) (Ni := some 6) (Nj := some 7) #[true, true, true, true, true, true, true, false, false, false] #[true, true, true, true, true, true, false, true, false, false] rfl rfl rfl rfl (by kernel_rfl) (by decide) (by decide) ?_ ?_
        · intro K hK
          go_simp
          obtain ⟨W3_, hV⟩ : ∃ V, V = World.alloc (W2_) (.cells #[.slice none 0 0] 22) := ⟨_, rfl⟩
          rw [← hV]
          replace hI := hI.a6 hV
          clear hV
          refine hK.out _ _ ⟨(hI.bel.cell (p := ⟨w.heap.size, 0, none⟩) Z1).trans p0, trivial⟩ (fun hHeld => ?_)
          clear hK K
          refine one_ (i := 7) (N := some 7) #[true, true, true, true, true, true, true, true, false, false] rfl rfl (by kernel_rfl) (by decide) ?_
          · intro K hK
            go_simp
            obtain ⟨W4_, hV⟩ : ∃ V, V = World.alloc (W3_) (.cells #[.slice none 0 0] 22) := ⟨_, rfl⟩
            rw [← hV]
            replace hI := hI.a7 hV
            clear hV
            refine hK.out _ _ ⟨(hI.bel.cell (p := ⟨w.heap.size, 0, none⟩) Z1).trans p0, trivial⟩ (fun hHeld => ?_)
            clear hK K
            exact hj_ (_, _, _, _) _ ⟨hI⟩
        · intro K hK
          go_simp
          obtain ⟨W3_, hV⟩ : ∃ V, V = World.alloc (W2_) (.cells #[.slice none 0 0] 22) := ⟨_, rfl⟩
          rw [← hV]
          replace hI := hI.a7 hV
          clear hV
          refine hK.out _ _ ⟨(hI.bel.cell (p := ⟨w.heap.size, 0, none⟩) Z1).trans p0, trivial⟩ (fun hHeld => ?_)
          clear hK K
          refine one_ (i := 6) (N := some 6) #[true, true, true, true, true, true, true, true, false, false] rfl rfl (by kernel_rfl) (by decide) ?_
          · intro K hK
            go_simp
            obtain ⟨W4_, hV⟩ : ∃ V, V = World.alloc (W3_) (.cells #[.slice none 0 0] 22) := ⟨_, rfl⟩
            rw [← hV]
            replace hI := hI.a6 hV
            clear hV
            refine hK.out _ _ ⟨(hI.bel.cell (p := ⟨w.heap.size, 0, none⟩) Z1).trans p0, trivial⟩ (fun hHeld => ?_)
            clear hK K
            exact hj_ (_, _, _, _) _ ⟨hI⟩
      · intro K hK
        go_simp
        obtain ⟨W2_, hV⟩ : ∃ V, V = World.alloc (W1_) (.cells #[.slice none 0 0] 22) := ⟨_, rfl⟩
        rw [← hV]
        replace hI := hI.a6 hV
        clear hV
        refine hK.out _ _ ⟨(hI.bel.cell (p := ⟨w.heap.size, 0, none⟩) Z1).trans p0, trivial⟩ (fun hHeld => ?_)
        clear hK K
        refine two_ (i := 5) (j := 7) (Ni := some 13) (Nj := some 7) #[true, true, true, true, true, true, true, false, false, false] #[true, true, true, true, true, false, true, true, false, false] rfl rfl rfl rfl (by kernel_rfl) (by decide) (by decide) ?_ ?_
        · intro K hK
          refine goes_ Try.func65 (by kernel_rfl) rfl #[.slice A' y.length c', .func (.func 88) #[] #[]] (by rfl) rfl rfl (by (try simp only [List.map_toArray, List.map_cons, List.map_nil]); first | done | rfl) ?_
          refine (HY.out _ hI.bel).mono ?_
          rintro e W3_ ⟨v13, rfl, ho, hb⟩
          replace hI := hI.c13 ho hb
          clear ho hb
          refine ⟨_, rfl, ?_⟩
          refine hK.out _ _ ⟨(hI.bel.cell (p := ⟨w.heap.size, 0, none⟩) Z1).trans p0, trivial⟩ (fun hHeld => ?_)
          clear hK K
          refine norm_ (a' := ?_) ?_ ?_
          rotate_left
          · show Act.put _ (some 13) _ = _
            simp only [Act.put, List.setIfInBounds_toArray, List.set_cons_zero, List.set_cons_succ, i64_w, i32_w]
            rfl
          refine one_ (i := 7) (N := some 7) #[true, true, true, true, true, true, true, true, false, false] rfl rfl (by kernel_rfl) (by decide) ?_
          · intro K hK
            go_simp
            obtain ⟨W4_, hV⟩ : ∃ V, V = World.alloc (W3_) (.cells #[.slice none 0 0] 22) := ⟨_, rfl⟩
            rw [← hV]
            replace hI := hI.a7 hV
            clear hV
            refine hK.out _ _ ⟨(hI.bel.cell (p := ⟨w.heap.size, 0, none⟩) Z1).trans p0, trivial⟩ (fun hHeld => ?_)
            clear hK K
            exact hj_ (_, _, _, _) _ ⟨hI⟩
        · intro K hK
          go_simp
          obtain ⟨W3_, hV⟩ : ∃ V, V = World.alloc (W2_) (.cells #[.slice none 0 0] 22) := ⟨_, rfl⟩
          rw [← hV]
          replace hI := hI.a7 hV
          clear hV
          refine hK.out _ _ ⟨(hI.bel.cell (p := ⟨w.heap.size, 0, none⟩) Z1).trans p0, trivial⟩ (fun hHeld => ?_)
          clear hK K
          refine one_ (i := 5) (N := some 13) #[true, true, true, true, true, true, true, true, false, false] rfl rfl (by kernel_rfl) (by decide) ?_
          · intro K hK
            refine goes_ Try.func65 (by kernel_rfl) rfl #[.slice A' y.length c', .func (.func 88) #[] #[]] (by rfl) rfl rfl (by (try simp only [List.map_toArray, List.map_cons, List.map_nil]); first | done | rfl) ?_
            refine (HY.out _ hI.bel).mono ?_
            rintro e W4_ ⟨v13, rfl, ho, hb⟩
            replace hI := hI.c13 ho hb
            clear ho hb
            refine ⟨_, rfl, ?_⟩
            refine hK.out _ _ ⟨(hI.bel.cell (p := ⟨w.heap.size, 0, none⟩) Z1).trans p0, trivial⟩ (fun hHeld => ?_)
            clear hK K
            refine norm_ (a' := ?_) ?_ ?_
            rotate_left
            · show Act.put _ (some 13) _ = _
              simp only [Act.put, List.setIfInBounds_toArray, List.set_cons_zero, List.set_cons_succ, i64_w, i32_w]
              rfl
            exact hj_ (_, _, _, _) _ ⟨hI⟩
      · intro K hK
        go_simp
        obtain ⟨W2_, hV⟩ : ∃ V, V = World.alloc (W1_) (.cells #[.slice none 0 0] 22) := ⟨_, rfl⟩
        rw [← hV]
        replace hI := hI.a7 hV
        clear hV
        refine hK.out _ _ ⟨(hI.bel.cell (p := ⟨w.heap.size, 0, none⟩) Z1).trans p0, trivial⟩ (fun hHeld => ?_)
        clear hK K
        refine two_ (i := 5) (j := 6) (Ni := some 13) (Nj := some 6) #[true, true, true, true, true, true, false, true, false, false] #[true, true, true, true, true, false, true, true, false, false] rfl rfl rfl rfl (by kernel_rfl) (by decide) (by decide) ?_ ?_
        · intro K hK
          refine goes_ Try.func65 (by kernel_rfl) rfl #[.slice A' y.length c', .func (.func 88) #[] #[]] (by rfl) rfl rfl (by (try simp only [List.map_toArray, List.map_cons, List.map_nil]); first | done | rfl) ?_
          refine (HY.out _ hI.bel).mono ?_
          rintro e W3_ ⟨v13, rfl, ho, hb⟩
          replace hI := hI.c13 ho hb
          clear ho hb
          refine ⟨_, rfl, ?_⟩
          refine hK.out _ _ ⟨(hI.bel.cell (p := ⟨w.heap.size, 0, none⟩) Z1).trans p0, trivial⟩ (fun hHeld => ?_)
          clear hK K
          refine norm_ (a' := ?_) ?_ ?_
          rotate_left
          · show Act.put _ (some 13) _ = _
            simp only [Act.put, List.setIfInBounds_toArray, List.set_cons_zero, List.set_cons_succ, i64_w, i32_w]
            rfl
          refine one_ (i := 6) (N := some 6) #[true, true, true, true, true, true, true, true, false, false] rfl rfl (by kernel_rfl) (by decide) ?_
          · intro K hK
            go_simp
            obtain ⟨W4_, hV⟩ : ∃ V, V = World.alloc (W3_) (.cells #[.slice none 0 0] 22) := ⟨_, rfl⟩
            rw [← hV]
            replace hI := hI.a6 hV
            clear hV
            refine hK.out _ _ ⟨(hI.bel.cell (p := ⟨w.heap.size, 0, none⟩) Z1).trans p0, trivial⟩ (fun hHeld => ?_)
            clear hK K
            exact hj_ (_, _, _, _) _ ⟨hI⟩
        · intro K hK
          go_simp
          obtain ⟨W3_, hV⟩ : ∃ V, V = World.alloc (W2_) (.cells #[.slice none 0 0] 22) := ⟨_, rfl⟩
          rw [← hV]
          replace hI := hI.a6 hV
          clear hV
          refine hK.out _ _ ⟨(hI.bel.cell (p := ⟨w.heap.size, 0, none⟩) Z1).trans p0, trivial⟩ (fun hHeld => ?_)
          clear hK K
          refine one_ (i := 5) (N := some 13) #[true, true, true, true, true, true, true, true, false, false] rfl rfl (by kernel_rfl) (by decide) ?_
          · intro K hK
            refine goes_ Try.func65 (by kernel_rfl) rfl #[.slice A' y.length c', .func (.func 88) #[] #[]] (by rfl) rfl rfl (by (try simp only [List.map_toArray, List.map_cons, List.map_nil]); first | done | rfl) ?_
            refine (HY.out _ hI.bel).mono ?_
            rintro e W4_ ⟨v13, rfl, ho, hb⟩
            replace hI := hI.c13 ho hb
            clear ho hb
            refine ⟨_, rfl, ?_⟩
            refine hK.out _ _ ⟨(hI.bel.cell (p := ⟨w.heap.size, 0, none⟩) Z1).trans p0, trivial⟩ (fun hHeld => ?_)
            clear hK K
            refine norm_ (a' := ?_) ?_ ?_
            rotate_left
            · show Act.put _ (some 13) _ = _
              simp only [Act.put, List.setIfInBounds_toArray, List.set_cons_zero, List.set_cons_succ, i64_w, i32_w]
              rfl
            exact hj_ (_, _, _, _) _ ⟨hI⟩
    · intro K hK
      go_simp
      obtain ⟨W1_, hV⟩ : ∃ V, V = World.alloc (W0_) (.cells #[.slice none 0 0] 22) := ⟨_, rfl⟩
      rw [← hV]
      replace hI := hI.a6 hV
      clear hV
      refine hK.out _ _ ⟨(hI.bel.cell (p := ⟨w.heap.size, 0, none⟩) Z1).trans p0, trivial⟩ (fun hHeld => ?_)
      clear hK K
      refine two_ (i := 2) (j := 7) (Ni := some 10) (Nj := some 7) #[true, true, true, true, true, false, true, false, false, false] #[true, true, false, true, true, false, true, true, false, false] rfl rfl rfl rfl (by kernel_rfl) (by decide) (by decide) ?_ ?_
      · intro K hK
        refine goes_ Try.func65 (by kernel_rfl) rfl #[.slice A x.length c, .func (.func 88) #[] #[]] (by rfl) rfl rfl (by (try simp only [List.map_toArray, List.map_cons, List.map_nil]); first | done | rfl) ?_
        refine (HX.out _ hI.bel).mono ?_
        rintro e W2_ ⟨v10, rfl, ho, hb⟩
        replace hI := hI.c10 ho hb
        clear ho hb
        refine ⟨_, rfl, ?_⟩
        refine hK.out _ _ ⟨(hI.bel.cell (p := ⟨w.heap.size, 0, none⟩) Z1).trans p0, trivial⟩ (fun hHeld => ?_)
        clear hK K
        refine norm_ (a' := ?_) ?_ ?_
        rotate_left
        · show Act.put _ (some 10) _ = _
          simp only [Act.put, List.setIfInBounds_toArray, List.set_cons_zero, List.set_cons_succ, i64_w, i32_w]
          rfl
        refine two_ (i := 5) (j := 7) (Ni := some 13) (Nj := some 7) #[true, true, true, true, true, true, true, false, false, false] #[true, true, true, true, true, false, true, true, false, false] rfl rfl rfl rfl (by kernel_rfl) (by decide) (by decide) ?_ ?_
        · intro K hK
          refine goes_ Try.func65 (by kernel_rfl) rfl #[.slice A' y.length c', .func (.func 88) #[] #[]] (by rfl) rfl rfl (by (try simp only [List.map_toArray, List.map_cons, List.map_nil]); first | done | rfl) ?_
          refine (HY.out _ hI.bel).mono ?_
          rintro e W3_ ⟨v13, rfl, ho, hb⟩
          replace hI := hI.c13 ho hb
          clear ho hb
          refine ⟨_, rfl, ?_⟩
          refine hK.out _ _ ⟨(hI.bel.cell (p := ⟨w.heap.size, 0, none⟩) Z1).trans p0, trivial⟩ (fun hHeld => ?_)
          clear hK K
          refine norm_ (a' := ?_) ?_ ?_
          rotate_left
          · show Act.put _ (some 13) _ = _
            simp only [Act.put, List.setIfInBounds_toArray, List.set_cons_zero, List.set_cons_succ, i64_w, i32_w]
            rfl
          refine one_ (i := 7) (N := some 7) #[true, true, true, true, true, true, true, true, false, false] rfl rfl (by kernel_rfl) (by decide) ?_
          · intro K hK
            go_simp
            obtain ⟨W4_, hV⟩ : ∃ V, V = World.alloc (W3_) (.cells #[.slice none 0 0] 22) := ⟨_, rfl⟩
            rw [← hV]
            replace hI := hI.a7 hV
            clear hV
            refine hK.out _ _ ⟨(hI.bel.cell (p := ⟨w.heap.size, 0, none⟩) Z1).trans p0, trivial⟩ (fun hHeld => ?_)
            clear hK K
            exact hj_ (_, _, _, _) _ ⟨hI⟩
        · intro K hK
          go_simp
          obtain ⟨W3_, hV⟩ : ∃ V, V = World.alloc (W2_) (.cells #[.slice none 0 0] 22) := ⟨_, rfl⟩
          rw [← hV]
          replace hI := hI.a7 hV
          clear hV
          refine hK.out _ _ ⟨(hI.bel.cell (p := ⟨w.heap.size, 0, none⟩) Z1).trans p0, trivial⟩ (fun hHeld => ?_)
          clear hK K
          refine one_ (i := 5) (N := some 13) #[true, true, true, true, true, true, true, true, false, false] rfl rfl (by kernel_rfl) (by decide) ?_
          · intro K hK
            refine goes_ Try.func65 (by kernel_rfl) rfl #[.slice A' y.length c', .func (.func 88) #[] #[]] (by rfl) rfl rfl (by (try simp only [List.map_toArray, List.map_cons, List.map_nil]); first | done | rfl) ?_
            refine (HY.out _ hI.bel).mono ?_
            rintro e W4_ ⟨v13, rfl, ho, hb⟩
            replace hI := hI.c13 ho hb
            clear ho hb
            refine ⟨_, rfl, ?_⟩
            refine hK.out _ _ ⟨(hI.bel.cell (p := ⟨w.heap.size, 0, none⟩) Z1).trans p0, trivial⟩ (fun hHeld => ?_)
            clear hK K
            refine norm_ (a' := ?_) ?_ ?_
            rotate_left
            · show Act.put _ (some 13) _ = _
              simp only [Act.put, List.setIfInBounds_toArray, List.set_cons_zero, List.set_cons_succ, i64_w, i32_w]
              rfl
            exact hj_ (_, _, _, _) _ ⟨hI⟩
      · intro K hK
        go_simp
        obtain ⟨W2_, hV⟩ : ∃ V, V = World.alloc (W1_) (.cells #[.slice none 0 0] 22) := ⟨_, rfl⟩
        rw [← hV]
        replace hI := hI.a7 hV
        clear hV
        refine hK.out _ _ ⟨(hI.bel.cell (p := ⟨w.heap.size, 0, none⟩) Z1).trans p0, trivial⟩ (fun hHeld => ?_)
        clear hK K
        refine one_ (i := 2) (N := some 10) #[true, true, true, true, true, false, true, true, false, false] rfl rfl (by kernel_rfl) (by decide) ?_
        · intro K hK
          refine goes_ Try.func65 (by kernel_rfl) rfl #[.slice A x.length c, .func (.func 88) #[] #[]] (by rfl) rfl rfl (by (try simp only [List.map_toArray, List.map_cons, List.map_nil]); first | done | rfl) ?_
          refine (HX.out _ hI.bel).mono ?_
          rintro e W3_ ⟨v10, rfl, ho, hb⟩
          replace hI := hI.c10 ho hb
          clear ho hb
          refine ⟨_, rfl, ?_⟩
          refine hK.out _ _ ⟨(hI.bel.cell (p := ⟨w.heap.size, 0, none⟩) Z1).trans p0, trivial⟩ (fun hHeld => ?_)
          clear hK K
          refine norm_ (a' := ?_) ?_ ?_
          rotate_left
          · show Act.put _ (some 10) _ = _
            simp only [Act.put, List.setIfInBounds_toArray, List.set_cons_zero, List.set_cons_succ, i64_w, i32_w]
            rfl
          refine one_ (i := 5) (N := some 13) #[true, true, true, true, true, true, true, true, false, false] rfl rfl (by kernel_rfl) (by decide) ?_
          · intro K hK
            refine goes_ Try.func65 (by kernel_rfl) rfl #[.slice A' y.length c', .func (.func 88) #[] #[]] (by rfl) rfl rfl (by (try simp only [List.map_toArray, List.map_cons, List.map_nil]); first | done | rfl) ?_
            refine (HY.out _ hI.bel).mono ?_
            rintro e W4_ ⟨v13, rfl, ho, hb⟩
            replace hI := hI.c13 ho hb
            clear ho hb
            refine ⟨_, rfl, ?_⟩
            refine hK.out _ _ ⟨(hI.bel.cell (p := ⟨w.heap.size, 0, none⟩) Z1).trans p0, trivial⟩ (fun hHeld => ?_)
            clear hK K
            refine norm_ (a' := ?_) ?_ ?_
            rotate_left
            · show Act.put _ (some 13) _ = _
              simp only [Act.put, List.setIfInBounds_toArray, List.set_cons_zero, List.set_cons_succ, i64_w, i32_w]
              rfl
            exact hj_ (_, _, _, _) _ ⟨hI⟩
    · intro K hK
      go_simp
      obtain ⟨W1_, hV⟩ : ∃ V, V = World.alloc (W0_) (.cells #[.slice none 0 0] 22) := ⟨_, rfl⟩
      rw [← hV]
      replace hI := hI.a7 hV
      clear hV
      refine hK.out _ _ ⟨(hI.bel.cell (p := ⟨w.heap.size, 0, none⟩) Z1).trans p0, trivial⟩ (fun hHeld => ?_)
      clear hK K
      refine two_ (i := 2) (j := 6) (Ni := some 10) (Nj := some 6) #[true, true, true, true, true, false, false, true, false, false] #[true, true, false, true, true, false, true, true, false, false] rfl rfl rfl rfl (by kernel_rfl) (by decide) (by decide) ?_ ?_
      · intro K hK
        refine goes_ Try.func65 (by kernel_rfl) rfl #[.slice A x.length c, .func (.func 88) #[] #[]] (by rfl) rfl rfl (by (try simp only [List.map_toArray, List.map_cons, List.map_nil]); first | done | rfl) ?_
        refine (HX.out _ hI.bel).mono ?_
        rintro e W2_ ⟨v10, rfl, ho, hb⟩
        replace hI := hI.c10 ho hb
        clear ho hb
        refine ⟨_, rfl, ?_⟩
        refine hK.out _ _ ⟨(hI.bel.cell (p := ⟨w.heap.size, 0, none⟩) Z1).trans p0, trivial⟩ (fun hHeld => ?_)
        clear hK K
        refine norm_ (a' := ?_) ?_ ?_
        rotate_left
        · show Act.put _ (some 10) _ = _
          simp only [Act.put, List.setIfInBounds_toArray, List.set_cons_zero, List.set_cons_succ, i64_w, i32_w]
          rfl
        refine two_ (i := 5) (j := 6) (Ni := some 13) (Nj := some 6) #[true, true, true, true, true, true, false, true, false, false] #[true, true, true, true, true, false, true, true, false, false] rfl rfl rfl rfl (by kernel_rfl) (by decide) (by decide) ?_ ?_
        · intro K hK
          refine goes_ Try.func65 (by kernel_rfl) rfl #[.slice A' y.length c', .func (.func 88) #[] #[]] (by rfl) rfl rfl (by (try simp only [List.map_toArray, List.map_cons, List.map_nil]); first | done | rfl) ?_
          refine (HY.out _ hI.bel).mono ?_
          rintro e W3_ ⟨v13, rfl, ho, hb⟩
          replace hI := hI.c13 ho hb
          clear ho hb
          refine ⟨_, rfl, ?_⟩
          refine hK.out _ _ ⟨(hI.bel.cell (p := ⟨w.heap.size, 0, none⟩) Z1).trans p0, trivial⟩ (fun hHeld => ?_)
          clear hK K
          refine norm_ (a' := ?_) ?_ ?_
          rotate_left
          · show Act.put _ (some 13) _ = _
            simp only [Act.put, List.setIfInBounds_toArray, List.set_cons_zero, List.set_cons_succ, i64_w, i32_w]
            rfl
          refine one_ (i := 6) (N := some 6) #[true, true, true, true, true, true, true, true, false, false] rfl rfl (by kernel_rfl) (by decide) ?_
          · intro K hK
            go_simp
            obtain ⟨W4_, hV⟩ : ∃ V, V = World.alloc (W3_) (.cells #[.slice none 0 0] 22) := ⟨_, rfl⟩
            rw [← hV]
            replace hI := hI.a6 hV
            clear hV
            refine hK.out _ _ ⟨(hI.bel.cell (p := ⟨w.heap.size, 0, none⟩) Z1).trans p0, trivial⟩ (fun hHeld => ?_)
            clear hK K
            exact hj_ (_, _, _, _) _ ⟨hI⟩
        · intro K hK
          go_simp
          obtain ⟨W3_, hV⟩ : ∃ V, V = World.alloc (W2_) (.cells #[.slice none 0 0] 22) := ⟨_, rfl⟩
          rw [← hV]
          replace hI := hI.a6 hV
          clear hV
          refine hK.out _ _ ⟨(hI.bel.cell (p := ⟨w.heap.size, 0, none⟩) Z1).trans p0, trivial⟩ (fun hHeld => ?_)
          clear hK K
          refine one_ (i := 5) (N := some 13) #[true, true, true, true, true, true, true, true, false, false] rfl rfl (by kernel_rfl) (by decide) ?_
          · intro K hK
            refine goes_ Try.func65 (by kernel_rfl) rfl #[.slice A' y.length c', .func (.func 88) #[] #[]] (by rfl) rfl rfl (by (try simp only [List.map_toArray, List.map_cons, List.map_nil]); first | done | rfl) ?_
            refine (HY.out _ hI.bel).mono ?_
            rintro e W4_ ⟨v13, rfl, ho, hb⟩
            replace hI := hI.c13 ho hb
            clear ho hb
            refine ⟨_, rfl, ?_⟩
            refine hK.out _ _ ⟨(hI.bel.cell (p := ⟨w.heap.size, 0, none⟩) Z1).trans p0, trivial⟩ (fun hHeld => ?_)
            clear hK K
            refine norm_ (a' := ?_) ?_ ?_
            rotate_left
            · show Act.put _ (some 13) _ = _
              simp only [Act.put, List.setIfInBounds_toArray, List.set_cons_zero, List.set_cons_succ, i64_w, i32_w]
              rfl
            exact hj_ (_, _, _, _) _ ⟨hI⟩
      · intro K hK
        go_simp
        obtain ⟨W2_, hV⟩ : ∃ V, V = World.alloc (W1_) (.cells #[.slice none 0 0] 22) := ⟨_, rfl⟩
        rw [← hV]
        replace hI := hI.a6 hV
        clear hV
        refine hK.out _ _ ⟨(hI.bel.cell (p := ⟨w.heap.size, 0, none⟩) Z1).trans p0, trivial⟩ (fun hHeld => ?_)
        clear hK K
        refine one_ (i := 2) (N := some 10) #[true, true, true, true, true, false, true, true, false, false] rfl rfl (by kernel_rfl) (by decide) ?_
        · intro K hK
          refine goes_ Try.func65 (by kernel_rfl) rfl #[.slice A x.length c, .func (.func 88) #[] #[]] (by rfl) rfl rfl (by (try simp only [List.map_toArray, List.map_cons, List.map_nil]); first | done | rfl) ?_
          refine (HX.out _ hI.bel).mono ?_
          rintro e W3_ ⟨v10, rfl, ho, hb⟩
          replace hI := hI.c10 ho hb
          clear ho hb
          refine ⟨_, rfl, ?_⟩
          refine hK.out _ _ ⟨(hI.bel.cell (p := ⟨w.heap.size, 0, none⟩) Z1).trans p0, trivial⟩ (fun hHeld => ?_)
          clear hK K
          refine norm_ (a' := ?_) ?_ ?_
          rotate_left
          · show Act.put _ (some 10) _ = _
            simp only [Act.put, List.setIfInBounds_toArray, List.set_cons_zero, List.set_cons_succ, i64_w, i32_w]
            rfl
          refine one_ (i := 5) (N := some 13) #[true, true, true, true, true, true, true, true, false, false] rfl rfl (by kernel_rfl) (by decide) ?_
          · intro K hK
            refine goes_ Try.func65 (by kernel_rfl) rfl #[.slice A' y.length c', .func (.func 88) #[] #[]] (by rfl) rfl rfl (by (try simp only [List.map_toArray, List.map_cons, List.map_nil]); first | done | rfl) ?_
            refine (HY.out _ hI.bel).mono ?_
            rintro e W4_ ⟨v13, rfl, ho, hb⟩
            replace hI := hI.c13 ho hb
            clear ho hb
            refine ⟨_, rfl, ?_⟩
            refine hK.out _ _ ⟨(hI.bel.cell (p := ⟨w.heap.size, 0, none⟩) Z1).trans p0, trivial⟩ (fun hHeld => ?_)
            clear hK K
            refine norm_ (a' := ?_) ?_ ?_
            rotate_left
            · show Act.put _ (some 13) _ = _
              simp only [Act.put, List.setIfInBounds_toArray, List.set_cons_zero, List.set_cons_succ, i64_w, i32_w]
              rfl
            exact hj_ (_, _, _, _) _ ⟨hI⟩
  case cont_ =>
    intro s w' hF
    obtain ⟨v10, v13, b6, b7⟩ := s
    have hI := hF.out
    have hfin := hI.final hW.out
    obtain ⟨A1, c1, _, _, e1, _⟩ := (hI.r10 _ rfl).h
    simp only at e1
    subst e1
    obtain ⟨A2, c2, _, _, e2, _⟩ := (hI.r13 _ rfl).h
    simp only at e2
    subst e2
    have c6 := box_cells (hI.b6 b6 rfl).h 0
    have f6 := box_free (hI.b6 b6 rfl).h 0
    have c7 := box_cells (hI.b7 b7 rfl).h 0
    have f7 := box_free (hI.b7 b7 rfl).h 0
    have n1 := hI.ne b6 b7 rfl rfl
    have n2 := n1.symm
    have hbel := BB.trans (hI.bel.mono (Nat.le_of_lt Z1))
    have lo6 := (hI.b6 b6 rfl).lo
    have lo7 := (hI.b7 b7 rfl).lo
    replace hfin := Q.mk hfin
    clear hI hF
    refine norm_ (a' := ?_) ?_ ?_
    rotate_left
    · simp only [putAll, Act.put, List.setIfInBounds_toArray, List.set_cons_zero, List.set_cons_succ, i64_w, i32_w]
      rfl
    refine last_ (i := 8) (N := none) #[true, true, true, true, true, true, true, true, true, false] rfl rfl (by kernel_rfl) (by decide) (fun K hK => ?_)
    go_simp
    refine hK.out _ _ ?_
    clear hK K
    refine last_ (i := 9) (N := none) #[true, true, true, true, true, true, true, true, true, true] rfl rfl (by kernel_rfl) (by decide) (fun K hK => ?_)
    go_simp
    refine hK.out _ _ ?_
    clear hK K
    refine done_ (by kernel_rfl) ?_
    go_wp2
    go_ret
    obtain ⟨Ax, Ay, cx, cy, h⟩ := hfin.out
    refine ⟨Ax, Ay, cx, cy, b6, b7, w.heap.size, rfl, (hbel.setCell (by show w.heap.size ≤ b6; omega) _).setCell (by show w.heap.size ≤ b7; omega) _, ?_⟩
    rw [size_set, size_set]
    exact h
end Go.Proofs.Ytifakbipdmceiaa
