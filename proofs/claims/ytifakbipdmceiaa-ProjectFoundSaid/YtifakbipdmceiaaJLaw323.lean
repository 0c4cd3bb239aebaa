import Derived.Test.YtifakbipdmceiaaJLaw322
set_option linter.unusedVariables false
set_option linter.unusedSimpArgs false
namespace Go.Proofs.Ytifakbipdmceiaa
open Go.RowKit

theorem toF_lt (l : List Ev) : ∀ k, k ≤ l.length → ∀ t ∈ toF l k, t < l.length
  | 0, _, t, ht => by
    simp only [toF, List.mem_replicate] at ht
    omega
  | k + 1, hk, t, ht => by
    have ih := toF_lt l k (by omega)
    rw [toF] at ht
    rw [show l[k]? = some l[k] by simp] at ht
    have st : ∀ (xs : List Int) (i : Nat) (x : Int), (∀ t ∈ xs, t < l.length) → x < l.length → ∀ t ∈ xs.set i x, t < l.length := by
      intro xs i x h1 h2 t ht
      rcases List.mem_or_eq_of_mem_set ht with h | h
      · exact h1 t h
      · omega
    simp only at ht
    split at ht
    · cases ho : opn l l[k].p k with
      | none => rw [ho] at ht; exact st _ _ _ ih (by omega) t ht
      | some i =>
        have := opn_lt l _ k i ho
        rw [ho] at ht
        exact st _ _ _ (st _ _ _ (st _ _ _ ih (by omega)) (by omega)) (by omega) t ht
    · exact st _ _ _ ih (by omega) t ht
theorem callsP_lt (l : List Ev) : ∀ t ∈ callsP l, t < l.length := toF_lt l _ (Nat.le_refl _)
theorem callsP_len (l : List Ev) : (callsP l).length = l.length := toF_len l _

def objectP (l : List Ev) (name : ByteArray) : List Ev := keepP (objB l (callsP l) name) l
def procP (l : List Ev) (name : ByteArray) : List Ev := keepP (procB l name) l
def wholeP (l : List Ev) : List Ev := keepP (wholeB l (callsP l)) l
def copyP (l : List Ev) : List Ev := keepP (fun _ => true) l

set_option maxHeartbeats 1000000 in
set_option maxRecDepth 100000 in
theorem proc_any (l : List Ev) (A : Option Addr) (c B0 N0 : Nat) (name : ByteArray) (w : World) (hr0 : Row eEl B0 N0 w A l) (hN : N0 ≤ w.heap.size) (hc : l.length ≤ c) :
    Calls Try.prog 16 #[.slice A l.length c, .string name] w fun e w' => ∃ v, e = .returned v ∧ Own eEl 37 w.heap.size w'.heap.size w' v (procP l name) ∧ Below w.heap.size w w' := by
  have hr := Q.mk hr0
  clear hr0
  obtain ⟨W0, hW0, b0, b1, BB, Z⟩ := boxes2 w (.cells #[.slice A l.length c] 22) (.cells #[.string name] 9)
  have p0 := box_cells b0.out 0
  have p1 := box_cells b1.out 0
  have H0 : Q (∀ (j : Nat) (w1 : World), j < l.length → Below W0.heap.size W0 w1 → Calls Try.prog 67 #[.int .i64 j, .pointer (some ⟨w.heap.size, 0, none⟩), .pointer (some ⟨w.heap.size + 1, 0, none⟩)] w1 fun e w2 => e = .returned (.bool (procB l name j)) ∧ Below w1.heap.size w1 w2) :=
    ⟨fun j w1 hj hb1 => Proc1_any l A c B0 N0 name j _ _ w1 ((hr.out.below BB hN).below hb1 (by omega)) (by have := hb1.size; omega) hj (box_cells (hb1.box b0.out (by omega)) 0) (box_cells (hb1.box b1.out (by omega)) 0)⟩
  go_enter Try.func16, Try.ntmps16
  go_wp2_with (go_at_call 65; rw [← hW0]; refine (those_b l A c B0 N0 _ _ _ (procB l name) (hr.out.below BB hN) (by omega) hc H0.out).mono ?_; rintro e w2 ⟨v, rfl, ho, hb⟩; replace ho := Q.mk ho)
  go_ret
  exact ⟨_, rfl, ho.out.low (by omega), BB.trans (hb.mono (by omega))⟩

set_option maxHeartbeats 1000000 in
set_option maxRecDepth 100000 in
theorem object_any (l : List Ev) (A : Option Addr) (c B0 N0 : Nat) (name : ByteArray) (w : World) (hr0 : Row eEl B0 N0 w A l) (hN : N0 ≤ w.heap.size) (hc : l.length ≤ c) :
    Calls Try.prog 15 #[.slice A l.length c, .string name] w fun e w' => ∃ v, e = .returned v ∧ Own eEl 37 w.heap.size w'.heap.size w' v (objectP l name) ∧ Below w.heap.size w w' := by
  have hr := Q.mk hr0
  clear hr0
  obtain ⟨W0, hW0, b0, b1, BB, Z⟩ := boxes2 w (.cells #[.slice A l.length c] 22) (.cells #[.string name] 9)
  have p0 := box_cells b0.out 0
  have p1 := box_cells b1.out 0
  have HC : Q (Calls Try.prog 64 #[.slice A l.length c] W0 fun e w' => ∃ g, e = .returned (.slice (some ⟨g, 0, none⟩) l.length l.length) ∧ W0.heap.size ≤ g ∧ w'.heap[g]? = some (.cells (ints (callsP l)) 3 (0, 0)) ∧ Below W0.heap.size W0 w') :=
    ⟨calls_any l A c B0 N0 W0 (hr.out.below BB hN) (by omega) hc⟩
  have H0 : Q (∀ (g : Nat) (w2 w3 w1 : World) (j : Nat), w2.heap[g]? = some (.cells (ints (callsP l)) 3 (0, 0)) → Below W0.heap.size W0 w2 → w3 = w2.alloc (.cells #[.slice (some ⟨g, 0, none⟩) l.length l.length] 82) → j < l.length → Below w3.heap.size w3 w1 →
      Calls Try.prog 66 #[.int .i64 j, .pointer (some ⟨w.heap.size, 0, none⟩), .pointer (some ⟨w.heap.size + 1, 0, none⟩), .pointer (some ⟨w2.heap.size, 0, none⟩)] w1 fun e w4 => e = .returned (.bool (objB l (callsP l) name j)) ∧ Below w1.heap.size w1 w4) := by
    refine ⟨fun g w2 w3 w1 j hg hb2 h3 hj hb1 => ?_⟩
    have hz2 := hb2.size
    have hz1 := hb1.size
    have hgl := box_lt hg
    subst h3
    simp only [World.size_alloc] at hz1
    have c1 := hb1.box (box_alloc (hb2.box b0.out (by omega)) _) (by simp; omega)
    have c2 := hb1.box (box_alloc (hb2.box b1.out (by omega)) _) (by simp; omega)
    have c3 := hb1.box (heap_alloc_new w2 (.cells #[.slice (some ⟨g, 0, none⟩) l.length l.length] 82)) (by simp)
    have c4 := hb1.box (box_alloc hg _) (by simp; omega)
    exact Object1_any l (callsP l) A c B0 N0 name j _ _ _ g l.length w1 ((((hr.out.below BB hN).below hb2 (by omega)).alloc (by omega) _).below hb1 (by simp; omega)) (by omega) hj (callsP_len l) hj (callsP_lt l) (by omega) (by omega) (by omega) (by omega)
      (box_cells c1 0) (box_cells c3 0) (box_cells c2 0) ⟨c4⟩
  go_enter Try.func15, Try.ntmps15
  go_wp2_with (first
    | (go_at_call 64; rw [← hW0]; clear hW0; refine HC.out.mono ?_; rintro e w2 ⟨g, rfl, hgl, hg, hb2⟩; replace hg := Q.mk hg; have hsz2 := hb2.size; have p2 := box_cells (hb2.box b0.out (by omega)) 0; have l2 : w.heap.size < w2.heap.size := (by omega))
    | (go_at_call 65; refine (those_a l A c B0 N0 _ _ _ _ (objB l (callsP l) name) (((hr.out.below BB hN).below hb2 (by omega)).alloc (by omega) _) (by simp; omega) hc (fun j w1 hj hb1 => H0.out g w2 _ w1 j hg.out hb2 rfl hj hb1)).mono ?_; rintro e w4 ⟨v, rfl, ho, hb⟩; replace ho := Q.mk ho))
  go_ret
  exact ⟨_, rfl, ho.out.low (by simp; omega), ((BB.trans (hb2.mono (by omega))).alloc (by omega) _).trans (hb.mono (by simp; omega))⟩

set_option maxHeartbeats 1000000 in
set_option maxRecDepth 100000 in
theorem whole_any (l : List Ev) (A : Option Addr) (c B0 N0 : Nat) (w : World) (hr0 : Row eEl B0 N0 w A l) (hN : N0 ≤ w.heap.size) (hc : l.length ≤ c) :
    Calls Try.prog 17 #[.slice A l.length c] w fun e w' => ∃ v, e = .returned v ∧ Own eEl 37 w.heap.size w'.heap.size w' v (wholeP l) ∧ Below w.heap.size w w' := by
  have hr := Q.mk hr0
  clear hr0
  obtain ⟨W0, hW0, b0, BB, Z⟩ := boxes1 w (.cells #[.slice A l.length c] 22)
  have p0 := box_cells b0.out 0
  have HC : Q (Calls Try.prog 64 #[.slice A l.length c] W0 fun e w' => ∃ g, e = .returned (.slice (some ⟨g, 0, none⟩) l.length l.length) ∧ W0.heap.size ≤ g ∧ w'.heap[g]? = some (.cells (ints (callsP l)) 3 (0, 0)) ∧ Below W0.heap.size W0 w') :=
    ⟨calls_any l A c B0 N0 W0 (hr.out.below BB hN) (by omega) hc⟩
  have H0 : Q (∀ (g : Nat) (w2 w3 w1 : World) (j : Nat), w2.heap[g]? = some (.cells (ints (callsP l)) 3 (0, 0)) → Below W0.heap.size W0 w2 → w3 = w2.alloc (.cells #[.slice (some ⟨g, 0, none⟩) l.length l.length] 82) → j < l.length → Below w3.heap.size w3 w1 →
      Calls Try.prog 68 #[.int .i64 j, .pointer (some ⟨w2.heap.size, 0, none⟩), .pointer (some ⟨w.heap.size, 0, none⟩)] w1 fun e w4 => e = .returned (.bool (wholeB l (callsP l) j)) ∧ Below w1.heap.size w1 w4) := by
    refine ⟨fun g w2 w3 w1 j hg hb2 h3 hj hb1 => ?_⟩
    have hz2 := hb2.size
    have hz1 := hb1.size
    have hgl := box_lt hg
    subst h3
    simp only [World.size_alloc] at hz1
    have c1 := hb1.box (box_alloc (hb2.box b0.out (by omega)) _) (by simp; omega)
    have c3 := hb1.box (heap_alloc_new w2 (.cells #[.slice (some ⟨g, 0, none⟩) l.length l.length] 82)) (by simp)
    have c4 := hb1.box (box_alloc hg _) (by simp; omega)
    exact Whole1_any l (callsP l) A c B0 N0 j _ _ g l.length w1 ((((hr.out.below BB hN).below hb2 (by omega)).alloc (by omega) _).below hb1 (by simp; omega)) (by omega) hj (callsP_len l) hj
      (box_cells c1 0) (box_cells c3 0) ⟨c4⟩
  go_enter Try.func17, Try.ntmps17
  go_wp2_with (first
    | (go_at_call 64; rw [← hW0]; clear hW0; refine HC.out.mono ?_; rintro e w2 ⟨g, rfl, hgl, hg, hb2⟩; replace hg := Q.mk hg; have hsz2 := hb2.size; have p2 := box_cells (hb2.box b0.out (by omega)) 0; have l2 : w.heap.size < w2.heap.size := (by omega))
    | (go_at_call 65; refine (those_c l A c B0 N0 _ _ _ (wholeB l (callsP l)) (((hr.out.below BB hN).below hb2 (by omega)).alloc (by omega) _) (by simp; omega) hc (fun j w1 hj hb1 => H0.out g w2 _ w1 j hg.out hb2 rfl hj hb1)).mono ?_; rintro e w4 ⟨v, rfl, ho, hb⟩; replace ho := Q.mk ho))
  go_ret
  exact ⟨_, rfl, ho.out.low (by simp; omega), ((BB.trans (hb2.mono (by omega))).alloc (by omega) _).trans (hb.mono (by simp; omega))⟩
end Go.Proofs.Ytifakbipdmceiaa
