import Derived.Test.YtifakbipdmceiaaJLaw346
set_option linter.unusedVariables false
set_option linter.unusedSimpArgs false
namespace Go.Proofs.Ytifakbipdmceiaa
open Go.RowKit

theorem boxes4 (w : World) (o p q r : Obj) : ∃ W, W = (((w.alloc o).alloc p).alloc q).alloc r ∧ W.heap[w.heap.size]? = some o ∧ W.heap[w.heap.size + 1]? = some p ∧ W.heap[w.heap.size + 2]? = some q ∧ W.heap[w.heap.size + 3]? = some r ∧ Below w.heap.size w W ∧ W.heap.size = w.heap.size + 4 := by
  refine ⟨_, rfl, ?_, ?_, ?_, ?_, ((((Below.refl _ _).alloc (Nat.le_refl _) _).alloc (by simp) _).alloc (by simp; omega) _).alloc (by simp; omega) _, by simp⟩
  · exact box_alloc (box_alloc (box_alloc (heap_alloc_new _ _) _) _) _
  · exact box_alloc (box_alloc (heap_alloc_at _ _ (by simp)) _) _
  · exact box_alloc (heap_alloc_at _ _ (by simp)) _
  · exact heap_alloc_at _ _ (by simp)
theorem run_make_events (n : Nat) (hn : n * 144 ≤ 140737488355328) (w : World) : (Instr.makeSlice 22 (.int .i64 0) (.int .i64 n)).run Try.prog w =
    .ok (.slice (some ⟨w.heap.size, 0, none⟩) 0 n) (w.alloc (.cells (madeCells #[.int .i64 0, .string ⟨#[]⟩, .string ⟨#[]⟩, .string ⟨#[]⟩, .int .i64 0, .int .i64 0, .int .i64 0, .string ⟨#[]⟩, .slice none 0 0, .int .i64 0, .int .i64 0, .int .i64 0] (n * 12)) 37 (0, 0))) := by
  obtain ⟨i, hi, hz0, hz1, hz2⟩ := info_parts infoE
  have h := run_make (P := Try.prog) w 22 37 i _ Try.underlying22 hi hz0 .i64 .i64 0 n (by omega) (by omega) (by rw [hz2]; omega) (by omega)
  rw [hz1] at h
  simp only [Int.toNat_natCast, Int.toNat_zero] at h
  exact h

set_option maxHeartbeats 2000000 in
set_option maxRecDepth 100000 in
theorem merges2_seq (x y : List Ev) (Ax Ay : Option Addr) (cx cy bx bY ba K1 K2 : Nat) (w : World) (hM : MSt x y Ax Ay cx cy bx bY ba K1 K2 w) (hK : K2 ≤ w.heap.size) (hlen : (x.length + y.length) * 144 ≤ 140737488355328) :
    SeqT Try.prog 89 #[.pointer (some ⟨bx, 0, none⟩), .pointer (some ⟨bY, 0, none⟩), .pointer (some ⟨ba, 0, none⟩)] (fun x : VR => #[x.1]) (fun b => K1 ≤ b ∧ b < K2) 4 GR
      (fun xs => xs.map Prod.snd = mergesL [] x y) (fun pre => pre.map Prod.snd <+: mergesL [] x y) w := by
  intro l J Jx W hb hJ hJx hY h0
  have F : DFix x y cx cy bx bY ba K1 K2 W.heap.size := ⟨hM.bx, hM.bY, hM.ba, Nat.le_trans hK hb.size, hM.cx, hM.cy, hlen⟩
  have hx := hb.box hM.hx (by have := hM.bx; omega)
  have hy := hb.box hM.hy (by have := hM.bY; omega)
  have c1 := box_cells hx 0
  have c2 := box_cells hy 0
  have hmk : ∀ w : World, (Instr.makeSlice 22 (.int .i64 0) (.int .i64 ((x.length : Int) + (y.length : Int)))).run Try.prog w = .ok (.slice (some ⟨w.heap.size, 0, none⟩) 0 (x.length + y.length)) (w.alloc (.cells (madeCells #[.int .i64 0, .string ⟨#[]⟩, .string ⟨#[]⟩, .string ⟨#[]⟩, .int .i64 0, .int .i64 0, .int .i64 0, .string ⟨#[]⟩, .slice none 0 0, .int .i64 0, .int .i64 0, .int .i64 0] ((x.length + y.length) * 12)) 37 (0, 0))) := fun w => by
    rw [← Int.natCast_add]
    exact run_make_events (x.length + y.length) hlen w
  obtain ⟨W1, hW1, b0, b1, b2, b3, hb1, hz1⟩ := boxes4 W (.cells #[.func (.yield l) #[] #[]] 53) (.cells (madeCells #[.int .i64 0, .string ⟨#[]⟩, .string ⟨#[]⟩, .string ⟨#[]⟩, .int .i64 0, .int .i64 0, .int .i64 0, .string ⟨#[]⟩, .slice none 0 0, .int .i64 0, .int .i64 0, .int .i64 0] ((x.length + y.length) * 12)) 37 (0, 0))
    (.cells #[.slice (some ⟨W.heap.size + 1, 0, none⟩) 0 (x.length + y.length)] 22) (.cells #[.func (.func 90) #[] #[.pointer (some ⟨bx, 0, none⟩), .pointer (some ⟨bY, 0, none⟩), .pointer (some ⟨W.heap.size, 0, none⟩), .pointer (some ⟨W.heap.size + 2, 0, none⟩), .pointer (some ⟨ba, 0, none⟩), .pointer (some ⟨W.heap.size + 3, 0, none⟩)]] 117)
  have hle := hb.size
  have hS : DSt x y Ax Ay cx cy bx bY ba K1 K2 W.heap.size l 0 [] W1 := by
    refine ⟨hb1.box hx (by have := F.bx; have := F.K; omega), hb1.box hy (by have := F.bY; have := F.K; omega), hb1.box (hb.box hM.ha (by have := hM.ba; omega)) (by have := F.ba; have := F.K; omega), b0, b2, b3,
      (hM.rx.below hb hK).below hb1 F.K, (hM.ry.below hb hK).below hb1 F.K, ⟨[], ⟨rfl, .inr ⟨W.heap.size + 1, x.length + y.length, _, rfl, by omega, b1, Nat.zero_le _, by unfold maxLen; omega, ?_, rfl⟩⟩, CellsOf.nil eEl _ _ _⟩⟩
    exact size_madeCells _ _
  have HD := (down_any F (l := l) (J := J) (Jx := Jx) (Ax := Ax) (Ay := Ay) hY hJ _ 0 0 (Nat.zero_le _) (Nat.zero_le _) rfl).use 0 0 [] [] (W.heap.size + 4) W1 rfl rfl rfl hS (hJ _ _ _ _ h0 (Turns.below hb1 (Nat.le_refl _))) (by omega)
  replace HD := Q.mk HD
  have l1 : bx < W.heap.size := by have := F.bx; have := F.K; omega
  have l2 : bY < W.heap.size := by have := F.bY; have := F.K; omega
  have l3 : (x.length : Int) + (y.length : Int) ≤ 9223372036854775807 := by omega
  clear hY hJ hJx h0 hS b0 b1 b2 b3 hb1 hz1
  show Calls Try.prog 89 #[.func (.yield l) #[] #[], .pointer (some ⟨bx, 0, none⟩), .pointer (some ⟨bY, 0, none⟩), .pointer (some ⟨ba, 0, none⟩)] W _
  go_enter Try.func89, Try.ntmps89
  go_wp2_with (go_at_call 90; ((simp only [Nat.add_assoc, Nat.reduceAdd]); rw [← hW1]; refine HD.out.mono ?_); rintro e W2 ⟨r, rfl, hp⟩)
  go_end0
  refine ⟨⟨_, rfl⟩, ?_⟩
  rcases hp with ⟨rfl, xs, Z, n, hm, hj, _⟩ | ⟨rfl, q, hq, hj⟩
  · exact .inl ⟨xs, Z, hm, hj⟩
  · exact .inr ⟨q, hq, hj⟩
end Go.Proofs.Ytifakbipdmceiaa
