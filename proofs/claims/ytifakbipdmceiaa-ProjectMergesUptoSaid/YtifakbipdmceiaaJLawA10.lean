import Derived.Test.YtifakbipdmceiaaJLawA1
set_option linter.unusedVariables false
namespace Go.Proofs.Ytifakbipdmceiaa
open Go.RowKit

theorem infoV : (Try.prog.info? 32).map (fun i => (i.zero, i.size, i.bytes)) = some (some (.agg #[(.int .i64 0), (.int .i64 0), (.int .i64 0), (.string ⟨#[]⟩), (.slice none 0 0)]), 5, 64) := by kernel_rfl

set_option maxHeartbeats 1000000 in
set_option maxRecDepth 100000 in
theorem copied_any (d : Nat) : ∀ (k n m : Int) (t : ByteArray) (items : List Val) (A : Option Addr) (c B0 N0 : Nat) (w : World), SizeOf.sizeOf items ≤ d → Row vEl B0 N0 w A items → N0 ≤ w.heap.size → items.length ≤ c →
    Calls Try.prog 109 #[.agg #[.int .i64 k, .int .i64 n, .int .i64 m, .string t, .slice A items.length c]] w fun e w' =>
      ∃ v4, e = .returned (.agg #[.int .i64 k, .int .i64 n, .int .i64 m, .string t, v4]) ∧ Own vEl 32 w.heap.size w'.heap.size w' v4 items ∧ Below w.heap.size w w' := by
  induction d with
  | zero => intro k n m t items A c B0 N0 w hd; exfalso; have : 0 < SizeOf.sizeOf items := by cases items <;> simp <;> omega
            omega
  | succ d ih =>
  intro k n m t items A c B0 N0 w hd hr0 hN0 hc
  have IH := Lib.hid ih
  have hr := Q.mk hr0
  have hlen : items.length * 64 ≤ 140737488355328 := hr0.1
  clear hr0 ih
  go_enter Try.func109, Try.ntmps109
  go_wp2_with fail
  go_loopw [11] (fun i wr => ∃ (j : Nat) (u : Value), j ≤ items.length ∧ i = .int .i64 j ∧ Q (wr.heap[w.heap.size]? = some (.cells #[.int .i64 k, .int .i64 n, .int .i64 m, .string t, u] 32 (0, 0))) ∧
      Q (wr.heap[w.heap.size + 1]? = some (.cells #[.int .i64 0, .int .i64 0, .int .i64 0, .string ⟨#[]⟩, .slice none 0 0] 32 (0, 0))) ∧ Q (Own vEl 32 (w.heap.size + 2) wr.heap.size wr u (items.take j)) ∧ Below w.heap.size w wr)
    (fun i _ => items.length - (intOf i).toNat)
  case atStart =>
    exact ⟨0, .slice none 0 0, Nat.zero_le _, rfl, ⟨heap_alloc2_old _ _ _⟩, ⟨heap_alloc2_new _ _ _⟩, ⟨Own.nil _ _ _ _⟩, ((Below.refl _ _).alloc (Nat.le_refl _) _).alloc (by simp) _⟩
  case round =>
    obtain ⟨j, u, hj, rfl, hb0, hb1, hO, hB⟩ := hrel
    obtain ⟨a0, a1, a2, a3, a4, af⟩ := box5 hb0.out
    have hz := hB.size
    have hl0 := box_lt hb1.out
    have hl1 : w.heap.size < wr.heap.size := by omega
    have hl2 : w.heap.size < wr.heap.size + 1 := by omega
    by_cases hlt : j < items.length
    · obtain ⟨b, o, k', n', m', t', items', A', c', rfl, hbN, hx, ht', hc', hr', x0, x1, x2, x3, x4⟩ := (hr.out.below hB hN0).atV j hlt
      have hsz := Val.items_lt hlt hx
      replace hx := Q.mk hx
      replace hr' := Q.mk hr'
      go_wp2_with fail
      go_region_law (first | (refine step_append1 _ rfl vEl (.tmp 16) (.tmp 19) 30 32 rfl Try.underlying30 infoV rfl (w.heap.size + 2) (by rfl) (by rfl) (heap_alloc_new _ _) (Own.alloc (((hO.out.alloc _).drew).below hb2 (by simp)) _) ((ho2.alloc _).val k' n' m' ht') (Or.inl (by simp)) (by simp) (Nat.le_refl _) (by simp; omega) (by simp; omega) (by decide) (by simp [vEl]; omega) ?_; intro g1 c1 w3 hO3 hg3 hat3; obtain ⟨hc3, hf3, hs3⟩ := hO.out.rules hg3; simp only [World.size_alloc] at hc3 hf3 hs3; have hl6 : w.heap.size < w3.heap.size := (by omega)) | (go_simp; go_at_call 109; refine (IH.out k' n' m' t' items' A' c' B0 N0 _ (by omega) ((hr'.out.alloc (by omega) _).drew) (by simp; omega) hc').mono ?_; rintro e w2 ⟨v4, rfl, ho2, hb2⟩; obtain ⟨A4, c4, rfl, hc4, hr4⟩ := ho2.row; obtain ⟨hcc, hff, hsz2⟩ := bcell hb2; simp only [World.size_alloc, World.size_drew] at hcc hff hsz2; have hl5 : w.heap.size < w2.heap.size := (by omega); have hl3 : w.heap.size < w2.heap.size + 1 := (by omega); have hl4 : wr.heap.size < w2.heap.size + 1 := (by omega)))
      all_goals go_wp2
      all_goals
        have ht : (items.take j).length = j := List.length_take_of_le hj
        rw [ht] at hO3
        have e1 : items.take (j + 1) = items.take j ++ [.mk k' n' m' t' items'] := by rw [List.take_succ_eq_append_getElem hlt, hx.out]
        rw [← e1] at hO3
        have q0 : w3.heap[w.heap.size]? = _ := hO.out.block_far hg3 (box_alloc (hb2.box (box_alloc hb0.out _) (by simp; omega)) _) (.inl (by omega))
        have q1 : w3.heap[w.heap.size + 1]? = _ := hO.out.block_far hg3 (box_alloc (hb2.box (box_alloc hb1.out _) (by simp; omega)) _) (.inl (by omega))
        have q2 : Below w.heap.size w w3 := hO.out.below_grown (((hB.alloc hz _).drew.trans (hb2.mono (by simp; omega))).alloc (by omega) _) hg3 (by omega) (by simp; omega)
        go_roundw
        case rel => exact ⟨j + 1, _, by omega, by go_num, ⟨box_set q0 4 _⟩, ⟨box_far q1 (by simp) _⟩, ⟨by rw [size_set]; exact hO3.setCell (.inl (Nat.lt_add_of_pos_right (by decide))) _⟩, q2.setCell (Nat.le_refl _) _⟩
        case measure => simp [intOf]; omega
    · obtain ⟨z0, z1, z2, z3, z4, zf⟩ := box5 hb1.out
      obtain rfl : j = items.length := by omega
      obtain ⟨A2, c2, rfl, hc2, hro⟩ := hO.out.row
      rw [List.take_length] at *
      go_wp2_with fail
      have L1 : w.heap.size + 1 < w.heap.size + 2 := by omega
      have L2 : w.heap.size ≤ w.heap.size + 1 := by omega
      refine bodyPost_ret (results_cell_row rfl _ _ (w.heap.size + 1) 32 #[.int .i64 k, .int .i64 n, .int .i64 m, .string t, .slice A2 items.length c2] (0, 0) _ rfl
        (box_set (box_set (box_set (box_set (box_set hb1.out 0 _) 1 _) 2 _) 3 _) 4 _) Try.underlying32 rfl (by kernel_rfl)) rfl ⟨_, rfl, ?_, ?_⟩
      · exact (((((hO.out.put L1 _).put L1 _).put L1 _).put L1 _).put L1 _).low (by omega)
      · exact ((((hB.setCell L2 _).setCell L2 _).setCell L2 _).setCell L2 _).setCell L2 _
#print axioms copied_any
end Go.Proofs.Ytifakbipdmceiaa
