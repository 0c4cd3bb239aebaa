import Derived.Test.YtifakbipdmceiaaJLawA33
section
set_option linter.unusedVariables false
set_option linter.unusedSimpArgs false
namespace Go.Proofs.Ytifakbipdmceiaa
open Go.RowKit

theorem boxes4 (w : World) (o p q r : Obj) : ∃ W, W = (((w.alloc o).alloc p).alloc q).alloc r ∧ W.heap[w.heap.size]? = some o ∧ W.heap[w.heap.size + 1]? = some p ∧ W.heap[w.heap.size + 2]? = some q ∧ W.heap[w.heap.size + 3]? = some r ∧ Below w.heap.size w W ∧ W.heap.size = w.heap.size + 4 := by
  refine ⟨_, rfl, ?_, ?_, ?_, ?_, ((((Below.refl _ _).alloc (Nat.le_refl _) _).alloc (by simp) _).alloc (by simp; omega) _).alloc (by simp; omega) _, by simp⟩
  · exact box_alloc (box_alloc (box_alloc (heap_alloc_new _ _) _) _) _
  · exact box_alloc (box_alloc (heap_alloc_at _ _ (by simp)) _) _
  · exact box_alloc (heap_alloc_at _ _ (by simp)) _
  · exact heap_alloc_at _ _ (by simp)
theorem run_make_events (n : Nat) (hn : n * 144 ≤ 140737488355328) (w : World) : (Instr.makeSlice 22 (.int .i64 0) (.int .i64 n)).run Try.prog w =
    .ok (.slice (some ⟨w.heap.size, 0, none⟩) 0 n) (w.alloc (.cells (madeCells #[.int .i64 0, .string ⟨#[]⟩, .string ⟨#[]⟩, .string ⟨#[]⟩, .int .i64 0, .int .i64 0, .int .i64 0, .string ⟨#[]⟩, .slice none 0 0, .int .i64 0, .int .i64 0, .int .i64 0] (n * 12)) 37 (0, 0))) := by
  obtain ⟨i, hi, hz0, hz1, hz2⟩ := info_parts infoE
  have h := run_make (P := Try.prog) w 22 37 i _ Try.underlying22 hi hz0 .i64 .i64 0 n (by omega) (by omega) (by rw [hz2]; omega) (by omega)
  rw [hz1] at h
  simp only [Int.toNat_natCast, Int.toNat_zero] at h
  exact h

set_option maxHeartbeats 2000000 in
set_option maxRecDepth 100000 in
theorem merges2_seq (x y : List Ev) (Ax Ay : Option Addr) (cx cy bx bY ba K1 K2 : Nat) (w : World) (hM : MSt x y Ax Ay cx cy bx bY ba K1 K2 w) (hK : K2 ≤ w.heap.size) (hlen : (x.length + y.length) * 144 ≤ 140737488355328) :
    SeqT Try.prog 89 #[.pointer (some ⟨bx, 0, none⟩), .pointer (some ⟨bY, 0, none⟩), .pointer (some ⟨ba, 0, none⟩)] (fun x : VR => #[x.1]) (fun b => K1 ≤ b ∧ b < K2) 4 GR
      (fun xs => xs.map Prod.snd = mergesL [] x y) (fun pre => pre.map Prod.snd <+: mergesL [] x y) w := by
  intro l J Jx W hb hJ hJx hY h0
  have F : DFix x y cx cy bx bY ba K1 K2 W.heap.size := ⟨hM.bx, hM.bY, hM.ba, Nat.le_trans hK hb.size, hM.cx, hM.cy, hlen⟩
  have hx := hb.box hM.hx (by have := hM.bx; omega)
  have hy := hb.box hM.hy (by have := hM.bY; omega)
  have c1 := box_cells hx 0
  have c2 := box_cells hy 0
  have hmk : ∀ w : World, (Instr.makeSlice 22 (.int .i64 0) (.int .i64 ((x.length : Int) + (y.length : Int)))).run Try.prog w = .ok (.slice (some ⟨w.heap.size, 0, none⟩) 0 (x.length + y.length)) (w.alloc (.cells (madeCells #[.int .i64 0, .string ⟨#[]⟩, .string ⟨#[]⟩, .string ⟨#[]⟩, .int .i64 0, .int .i64 0, .int .i64 0, .string ⟨#[]⟩, .slice none 0 0, .int .i64 0, .int .i64 0, .int .i64 0] ((x.length + y.length) * 12)) 37 (0, 0))) := fun w => by
    rw [← Int.natCast_add]
    exact run_make_events (x.length + y.length) hlen w
  obtain ⟨W1, hW1, b0, b1, b2, b3, hb1, hz1⟩ := boxes4 W (.cells #[.func (.yield l) #[] #[]] 53) (.cells (madeCells #[.int .i64 0, .string ⟨#[]⟩, .string ⟨#[]⟩, .string ⟨#[]⟩, .int .i64 0, .int .i64 0, .int .i64 0, .string ⟨#[]⟩, .slice none 0 0, .int .i64 0, .int .i64 0, .int .i64 0] ((x.length + y.length) * 12)) 37 (0, 0))
    (.cells #[.slice (some ⟨W.heap.size + 1, 0, none⟩) 0 (x.length + y.length)] 22) (.cells #[.func (.func 90) #[] #[.pointer (some ⟨bx, 0, none⟩), .pointer (some ⟨bY, 0, none⟩), .pointer (some ⟨W.heap.size, 0, none⟩), .pointer (some ⟨W.heap.size + 2, 0, none⟩), .pointer (some ⟨ba, 0, none⟩), .pointer (some ⟨W.heap.size + 3, 0, none⟩)]] 117)
  have hle := hb.size
  have hS : DSt x y Ax Ay cx cy bx bY ba K1 K2 W.heap.size l 0 [] W1 := by
    refine ⟨hb1.box hx (by have := F.bx; have := F.K; omega), hb1.box hy (by have := F.bY; have := F.K; omega), hb1.box (hb.box hM.ha (by have := hM.ba; omega)) (by have := F.ba; have := F.K; omega), b0, b2, b3,
      (hM.rx.below hb hK).below hb1 F.K, (hM.ry.below hb hK).below hb1 F.K, ⟨[], ⟨rfl, .inr ⟨W.heap.size + 1, x.length + y.length, _, rfl, by omega, b1, Nat.zero_le _, by unfold maxLen; omega, ?_, rfl⟩⟩, CellsOf.nil eEl _ _ _⟩⟩
    exact size_madeCells _ _
  have HD := (down_any F (l := l) (J := J) (Jx := Jx) (Ax := Ax) (Ay := Ay) hY hJ _ 0 0 (Nat.zero_le _) (Nat.zero_le _) rfl).use 0 0 [] [] (W.heap.size + 4) W1 rfl rfl rfl hS (hJ _ _ _ _ h0 (Turns.below hb1 (Nat.le_refl _))) (by omega)
  replace HD := Q.mk HD
  have l1 : bx < W.heap.size := by have := F.bx; have := F.K; omega
  have l2 : bY < W.heap.size := by have := F.bY; have := F.K; omega
  have l3 : (x.length : Int) + (y.length : Int) ≤ 9223372036854775807 := by omega
  clear hY hJ hJx h0 hS b0 b1 b2 b3 hb1 hz1
  show Calls Try.prog 89 #[.func (.yield l) #[] #[], .pointer (some ⟨bx, 0, none⟩), .pointer (some ⟨bY, 0, none⟩), .pointer (some ⟨ba, 0, none⟩)] W _
  go_enter Try.func89, Try.ntmps89
  go_wp2_with (go_at_call 90; ((simp only [Nat.add_assoc, Nat.reduceAdd]); rw [← hW1]; refine HD.out.mono ?_); rintro e W2 ⟨r, rfl, hp⟩)
  go_end0
  refine ⟨⟨_, rfl⟩, ?_⟩
  rcases hp with ⟨rfl, xs, Z, n, hm, hj, _⟩ | ⟨rfl, q, hq, hj⟩
  · exact .inl ⟨xs, Z, hm, hj⟩
  · exact .inr ⟨q, hq, hj⟩
end Go.Proofs.Ytifakbipdmceiaa
end
section
set_option linter.unusedVariables false
set_option linter.unusedSimpArgs false
namespace Go.Proofs.Ytifakbipdmceiaa
open Go.RowKit
attribute [local go_sem] Oper.semAt_some

/-! ### rows of rows -/
def rEl : El (List Ev) where
  sz := 1
  by_ := 24
  R := fun B N w x cs => ∃ A c, (x.length ≤ c ∧ Row eEl B N w A x) ∧ cs = [.slice A x.length c]
  pos := by decide
  len := fun _ _ _ _ _ h => by obtain ⟨A, c, _, rfl⟩ := h; rfl
  one := fun _ _ _ v _ h => by obtain ⟨A, c, _, rfl⟩ := h; simp [Value.oneCell']
  loc := fun B N w v cs h w' hs => by obtain ⟨A, c, h1, rfl⟩ := h; exact ⟨A, c, ⟨h1.1, h1.2.loc hs⟩, rfl⟩
  mono := fun B N w v cs h B' N' hB hN => by obtain ⟨A, c, h1, rfl⟩ := h; exact ⟨A, c, ⟨h1.1, h1.2.mono hB hN⟩, rfl⟩
theorem infoR : (Try.prog.info? 22).map (fun i => (i.zero, i.size, i.bytes)) = some (some (.slice none 0 0), 1, 24) := by kernel_rfl

section
variable {P : Program}
theorem wpListIn_append1 (w : World) {l n : Nat} {ops : Array Oper} {rest : List Oper} {o : Oper} {a : Act} {Q : Exit → Act → World → Prop} (hgd : o.guard = none) {α : Type} (E : El α) (s x : Operand) (t e : TypeId)
    (ho : o.op = .call { callee := .builtin .append, args := #[s, x], argTypes := #[t, t] }) {z : Value}
    (ht : P.underlying t = some (.slice e)) (hi : (P.info? e).map (fun i => (i.zero, i.size, i.bytes)) = some (some z, E.sz, E.by_)) (hzs : z.cells.size = E.sz)
    {B N B' N' H : Nat} {v : Value} {xs : List α} {y : α} {ycs : Array Value} (B0 : Nat) (hs : a.eval s = v) (hx : a.eval x = .slice (some ⟨H, 0, none⟩) 1 1) (hbox : w.heap[H]? = some (.cells ycs e (0, 0)))
    (HO : Own E e B N w v xs) (hy : E.R B' N' w y ycs.toList) (hd : N ≤ B' ∨ N' ≤ B) (hN' : N' ≤ w.heap.size) (h0 : B0 ≤ B) (h0' : B0 ≤ B') (hB0 : B0 ≤ w.heap.size) (hby : 0 < E.by_) (hl : (xs.length + 1) * E.by_ ≤ 140737488355328)
    (h : ∀ g c w', Own E e B0 w'.heap.size w' (.slice (some ⟨g, 0, none⟩) (xs.length + 1) c) (xs ++ [y]) → w.grownBy w' v.ownBlock → (v.ownBlock = some g ∨ g = w.heap.size) → wpListIn (Fence.wide.inRound l) n P ops Q rest (a.put o.dst (.slice (some ⟨g, 0, none⟩) (xs.length + 1) c)) w') :
    wpListIn (Fence.wide.inRound l) n P ops Q (o :: rest) a w := by
  refine wpListIn_plain hgd fun K hK => ?_
  have h1 := wp_append1 (P := P) (Q := Q) (K := K) w E s x t e ho ht hi hzs B0 hs hx hbox HO hy hd hN' h0 h0' hB0 hby hl fun g c w' h2 h3 h4 => hK _ _ (h g c w' h2 h3 h4)
  unfold Oper.wp at h1
  unfold Oper.wpIn
  refine ⟨fun f hf => trivial, ?_⟩
  rw [Oper.semAt_plain (Fence.wide.inRound l) _ _ (by rw [ho]; intro c hc'; cases hc')]
  have hbu : ∀ n', ∀ w', (execOp a.eval o).run P w = .ok n' w' → ∃ v, n' = .value v := by
    intro n' w' hr
    simp only [execOp, ho, resolve, invoke, builtin, Sem.run_bind, Sem.run_pure, Result.andThen_ok] at hr
    cases hb : Sem.run P (Builtin.append_ #[t, t] o.type (Array.map a.eval #[s, x])) w with
    | ok v w2 => rw [hb] at hr; simp [Result.andThen] at hr; exact ⟨_, hr.1.symm⟩
    | halt hh w2 => rw [hb] at hr; simp [Result.andThen] at hr
  cases hr : (execOp a.eval o).run P w with
  | ok n' w' =>
    obtain ⟨v', rfl⟩ := hbu n' w' hr
    rw [hr] at h1
    exact h1
  | halt hh w' =>
    rw [hr] at h1
    cases hh <;> exact h1
end

theorem Own.turns {α : Type} {E : El α} {e : TypeId} {B N lo hi : Nat} {w w' : World} {v : Value} {xs : List α} (h : Own E e B N w v xs) (ht : Turns lo hi w w') (hB : hi ≤ B) : Own E e B N w' v xs :=
  h.step (Nat.le_trans h.1 ht.low.size) fun b h1 h2 => ht.block b (Nat.lt_of_lt_of_le h2 h.1) (.inr (by omega))
theorem GR.turns {lo hi Z : Nat} {x : VR} {A B : World} (h : GR hi x Z A) (ht : Turns lo hi A B) : GR hi x Z B := by
  obtain ⟨b, n, h1, h2, h3⟩ := h
  exact ⟨b, n, h1, h2, h3.turns ht h2⟩
theorem Own.nilN {α : Type} (E : El α) (e : TypeId) (B N : Nat) (w : World) (h : N ≤ w.heap.size) : Own E e B N w (.slice none 0 0) [] :=
  ⟨h, by simp, [], fun _ => False, World.ownsRow_nil _ _ _ _, by simp [Value.ownBlock], fun b h => h.elim, fun w' _ => CellsOf.nil E _ _ w'⟩
/-- What holds in rows() between two rounds: the boxes, what has been collected. -/
structure RowsI (lo hi Bo Bm most : Nat) (w : World) (xs : List (List Ev)) (Z : Nat) (W : World) : Prop where
  bel : Below w.heap.size w W
  hm : W.heap[Bm]? = some (.cells #[.int .i64 most] 3 (0, 0))
  ho : ∃ A c N, W.heap[Bo]? = some (.cells #[.slice A xs.length c] 46 (0, 0)) ∧ N ≤ Z ∧ Own rEl 22 hi N W (.slice A xs.length c) xs
theorem RowsI.turns {lo hi Bo Bm most : Nat} {w A B : World} {xs : List (List Ev)} {Z : Nat} (h : RowsI lo hi Bo Bm most w xs Z A) (ht : Turns lo hi A B) (h1 : Bo < lo) (h2 : Bm < lo) (h3 : w.heap.size ≤ lo) : RowsI lo hi Bo Bm most w xs Z B := by
  obtain ⟨hb, hm, A, c, N, ho, hN, hO⟩ := h
  exact ⟨ht.into hb h3 hb.size, (ht.block _ (box_lt hm) (by omega)).trans hm, A, c, N, (ht.block _ (box_lt ho) (by omega)).trans ho, hN, hO.turns ht (Nat.le_refl _)⟩

theorem RowsI.next {lo hi Bo Bm most : Nat} {w W w4 : World} {pre : List VR} {v : Value} {q : List Ev} {o : Obj} {A1 : Option Addr} {c1 N1 n g1 c3 : Nat} {X : Nat → Prop} (hn : (pre.map Prod.snd).length = n) (bel : Below w.heap.size w W) (hw : w.heap.size ≤ hi) (hlo : lo ≤ hi) (hhi : hi ≤ W.heap.size) (hBo : Bo < hi ∧ w.heap.size ≤ Bo) (hBm : Bm < hi) (hne : Bm ≠ Bo) (hX : ∀ b, X b → b < hi) (hXo : ¬ X Bo)
    (hO : Own rEl 22 hi N1 W (.slice A1 n c1) (pre.map Prod.snd)) (hg : (W.alloc o).grownBy w4 (Value.slice A1 n c1).ownBlock)
    (q1 : w4.heap[Bo]? = some (.cells #[.slice A1 n c1] 46 (0, 0))) (q2 : w4.heap[Bm]? = some (.cells #[.int .i64 most] 3 (0, 0)))
    (hO4 : Own rEl 22 hi w4.heap.size w4 (.slice (some ⟨g1, 0, none⟩) (n + 1) c3) (pre.map Prod.snd ++ [q])) :
    Kept X W (w4.setCell ⟨Bo, 0, none⟩ (.slice (some ⟨g1, 0, none⟩) (n + 1) c3)) ∧
      RowsI lo hi Bo Bm most w ((pre ++ [(v, q)]).map Prod.snd) (w4.setCell ⟨Bo, 0, none⟩ (.slice (some ⟨g1, 0, none⟩) (n + 1) c3)).heap.size (w4.setCell ⟨Bo, 0, none⟩ (.slice (some ⟨g1, 0, none⟩) (n + 1) c3)) := by
  have e1 : ((pre ++ [(v, q)]).map Prod.snd) = pre.map Prod.snd ++ [q] := by simp
  have e2 : (pre.map Prod.snd ++ [q]).length = n + 1 := by simp [← hn]
  have hr : ∀ b, (Value.slice A1 n c1).ownBlock = some b → hi ≤ b := fun b hb => (hO.lt hb).1
  constructor
  · refine Kept.setCell (Kept.grown ((Kept.refl X W).below ((Below.refl W.heap.size W).alloc (Nat.le_refl _) o) (fun b hb => by have := hX b hb; omega)) hg fun b hb => ⟨by have := hX b hb; simp; omega, fun e => ?_⟩) hXo _
    have := hX b hb
    have := hr b e
    omega
  · rw [e1]
    refine ⟨((bel.alloc bel.size o).grown hg (by have := bel.size; simp; omega) (fun g e => by have := hr g e; omega)).setCell hBo.2 _, box_far q2 hne _, some ⟨g1, 0, none⟩, c3, w4.heap.size, ?_, by rw [size_set]; exact Nat.le_refl _, ?_⟩
    · rw [e2]; exact box_set q1 0 _
    · rw [e2]; exact hO4.setCell (.inl hBo.1) _

set_option maxHeartbeats 2000000 in
set_option maxRecDepth 100000 in
theorem rows_any (x y : List Ev) (A A' : Option Addr) (c c' B0 N0 most : Nat) (w : World) (hx0 : Row eEl B0 N0 w A x) (hy0 : Row eEl B0 N0 w A' y) (hN : N0 ≤ w.heap.size) (hc : x.length ≤ c) (hc' : y.length ≤ c') (hlen : (x.length + y.length) * 144 ≤ 140737488355328) (hm0 : 1 ≤ most) (hm1 : most ≤ 1000000) :
    Calls Try.prog 38 #[.slice A x.length c, .slice A' y.length c', .int .i64 most] w fun e w' => ∃ v, e = .returned v ∧ Own rEl 22 w.heap.size w'.heap.size w' v ((mergesL [] x y).take most) ∧ Below w.heap.size w w' := by
  obtain ⟨W0, hW0, b0, b1, BB, Z⟩ := boxes2 w (.cells #[.int .i64 most] 3) (.cells #[.slice none 0 0] 46)
  have HM : Q (Calls Try.prog 36 #[.slice A x.length c, .slice A' y.length c'] W0 _) := ⟨merges_any x y A A' c c' B0 N0 W0 (hx0.below BB hN) (hy0.below BB hN) (by omega) hc hc'⟩
  clear hx0 hy0
  have hq : ∀ (cap : Array Value) (w : World), (binOp BinOp.eql 49 (.func (.func 89) #[] cap) .nilFunc).run Try.prog w = .ok (.bool false) w := fun cap w => by rfl
  have hb2 := Q.mk BB
  refine callsIn_wide.1 (callsIn_of_wp_marks (n := 0) Try.func38 rfl trivial ?_)
  simp only [Try.ntmps38, List.size_toArray, List.length_cons, List.length_nil, Nat.reduceAdd, Nat.reduceSub, Array.replicate_succ, Array.replicate_zero, List.push_toArray, List.append_toArray, List.nil_append, List.cons_append]
  refine wpIn_wide.2 ?_
  go_wp2_with (go_at_call 36; rw [← hW0]; clear hW0; refine HM.out.mono ?_; rintro e W2 ⟨Ax, Ay, cx, cy, bx, bY, ba, rfl, hb, hM⟩)
  clear hq HM
  have hz2 := hb.size
  have hzw : W0.heap.size = w.heap.size + 2 := Z
  refine wp_rangeT (gf := 89) (lb := #[.pointer (some ⟨bx, 0, none⟩), .pointer (some ⟨bY, 0, none⟩), .pointer (some ⟨ba, 0, none⟩)]) rfl (enters_of Try.func89 (by kernel_rfl) rfl)
    (merges2_seq x y Ax Ay cx cy bx bY ba W0.heap.size W2.heap.size W2 hM (Nat.le_refl _) hlen) (fun hi x Z A B h ht _ => h.turns ht) (Below.refl _ _) (fun b h => h.2) (fun _ => rfl)
    (fun pre Z W => pre.length < most ∧ RowsI W2.heap.size (W2.heap.size + 2 + 4) (w.heap.size + 1) w.heap.size most w (pre.map Prod.snd) Z W)
    (fun k pre W => k = .exit 0 ∧ (most ≤ pre.length ∧ pre.length ≤ most) ∧ ∃ Z, RowsI W2.heap.size (W2.heap.size + 2 + 4) (w.heap.size + 1) w.heap.size most w (pre.map Prod.snd) Z W)
    (fun s Z A B h ht => ⟨h.1, h.2.turns ht (by omega) (by omega) (by omega)⟩) (fun k s A B h ht => ⟨h.1, h.2.1, h.2.2.elim fun Z h => ⟨Z, h.turns ht (by omega) (by omega) (by omega)⟩⟩)
    ⟨by simp; omega, ⟨BB.trans (hb.mono (by omega)), hb.box b0.out (by omega), none, 0, 0, hb.box b1.out (by omega), Nat.zero_le _, Own.nilN _ _ _ _ _ (Nat.zero_le _)⟩⟩
    (fun q => { tmps := #[.slice A x.length c, .slice A' y.length c', .int .i64 most, undef, undef, .pointer (some ⟨w.heap.size, 0, none⟩), .slice none 0 0, .pointer (some ⟨w.heap.size + 1, 0, none⟩), .func (.func 89) #[] #[.pointer (some ⟨bx, 0, none⟩), .pointer (some ⟨bY, 0, none⟩), .pointer (some ⟨ba, 0, none⟩)], q.1,
      .slice A x.length c, .slice A' y.length c', .func (.func 89) #[] #[.pointer (some ⟨bx, 0, none⟩), .pointer (some ⟨bY, 0, none⟩), .pointer (some ⟨ba, 0, none⟩)], .func (.func 89) #[] #[.pointer (some ⟨bx, 0, none⟩), .pointer (some ⟨bY, 0, none⟩), .pointer (some ⟨ba, 0, none⟩)], .bool false,
      .func (.func 89) #[] #[.pointer (some ⟨bx, 0, none⟩), .pointer (some ⟨bY, 0, none⟩), .pointer (some ⟨ba, 0, none⟩)], q.1, undef, undef, undef, undef, undef, undef, undef, undef, undef], defers := [] }) ?assign ?body ?done ?stop
  case assign =>
    intro l x W K hK
    gi_wp2
    exact hK
  case body =>
    rintro l pre ⟨v, q⟩ Z W ⟨hl, hI⟩ ⟨B, N, hZB, hB, hO⟩ hsz
    obtain ⟨bel, hm, A1, c1, N1, ho, hN1, hOut⟩ := hI
    obtain ⟨A2, c2, hv, hc2, hr2⟩ := hO.row
    simp only at hv
    subst hv
    have hN2 := hO.1
    have co := box_cells ho 0
    have fo := box_free ho 0
    have cm := box_cells hm 0
    have lo := box_lt ho
    have lm := box_lt hm
    have hlm : (pre.map Prod.snd).length = pre.length := List.length_map _
    rw [hlm] at co ho
    have HO : Q (Own rEl 22 (W2.heap.size + 2 + 4) N1 W (.slice A1 pre.length c1) (pre.map Prod.snd)) := ⟨by rw [hlm] at hOut; exact hOut⟩
    have HR : Q (Row eEl B N W A2 q) := ⟨hr2⟩
    have HM : Q ((pre.map Prod.snd).length = pre.length) := ⟨hlm⟩
    clear hlm hOut hr2 hO
    replace hm := Q.mk hm
    replace ho := Q.mk ho
    by_cases hbr : most ≤ pre.length + 1
    all_goals
      have arm1 : True := trivial
      gi_wp2_with (gi_at_builtin; refine wpListIn_append1 _ rfl rEl (.tmp 17) (.tmp 19) 46 22 rfl Try.underlying46 infoR rfl (B := W2.heap.size + 2 + 4) (N := N1) (B' := B) (N' := N) (y := q) (H := W.heap.size) (W2.heap.size + 2 + 4) (by rfl) (by rfl) (heap_alloc_new _ _) (HO.out.alloc _) ⟨A2, c2, ⟨hc2, HR.out.alloc hN2 _⟩, rfl⟩ (Or.inl (by omega)) (by simp; omega) (Nat.le_refl _) hB (by simp; omega) (by decide) (by rw [HM.out]; simp only [rEl]; omega) ?_; intro g1 c3 w4 hO4 hg4 hat4; rw [HM.out] at hO4; rw [HM.out]; have q1 := HO.out.block_far hg4 (box_alloc ho.out _) (.inl (by omega)); have q2 := HO.out.block_far hg4 (box_alloc hm.out _) (.inl (by omega)); have d1 := box_cells q1 0; have d2 := box_free q1 0; have d3 := box_cells q2 0; replace q1 := Q.mk q1; replace q2 := Q.mk q2; replace hO4 := Q.mk hO4; replace hg4 := Q.mk hg4; clear hat4)
      have HN := Q.mk (RowsI.next (lo := W2.heap.size) (most := most) (v := .slice A2 q.length c2) (X := fun b => w.heap.size + 2 ≤ b ∧ b < W2.heap.size ∨ W2.heap.size ≤ b ∧ b < W2.heap.size + 2 + 4) HM.out bel (by omega) (by omega) hsz ⟨by omega, by omega⟩ (by omega) (by omega) (fun b hb => by omega) (fun hb => by omega) HO.out hg4.out q1.out q2.out hO4.out)
    · exact ⟨HN.out.1, rfl, ⟨by simp; omega, by simp; omega⟩, _, HN.out.2⟩
    · exact ⟨HN.out.1, by simp; omega, HN.out.2⟩
  case done =>
    rintro xs Z W hS ⟨hl, hI⟩ hK
    obtain ⟨bel, hm, A1, c1, N1, ho, hN1, hOut⟩ := hI
    have co := box_cells ho 0
    replace hS := Q.mk hS
    replace ho := Q.mk ho
    replace hOut := Q.mk hOut
    replace hm := Q.mk hm
    go_wp2
    refine ⟨by simp, .inl ⟨_, _, rfl, run_takeDeferred hK, ?_⟩⟩
    refine ⟨_, results_tmp rfl _ _ _, _, rfl, ?_, ?_⟩
    · rw [List.take_of_length_le (by rw [← hS.out, List.length_map]; omega), ← hS.out]
      have h1 := hOut.out.turns (Turns.putObj W (lo := W2.heap.size) (hi := W2.heap.size + 2 + 4) (l := W2.heap.size) (Nat.le_refl _) (by omega) (.deferred none)) (Nat.le_refl _)
      have h2 := (h1.low (B' := w.heap.size) (by omega)).widen (by have := hOut.out.1; simpa using this) (Nat.le_refl _)
      rw [List.length_map] at h2
      exact h2
    · exact (Turns.putObj W (lo := W2.heap.size) (hi := W2.heap.size + 2 + 4) (l := W2.heap.size) (Nat.le_refl _) (by omega) (.deferred none)).into bel (by omega) bel.size
  case stop =>
    rintro k pre W hS ⟨rfl, ⟨hl, hl'⟩, Z, hI⟩ hK
    obtain ⟨bel, hm, A1, c1, N1, ho, hN1, hOut⟩ := hI
    have co := box_cells ho 0
    replace hS := Q.mk hS
    replace ho := Q.mk ho
    replace hOut := Q.mk hOut
    replace hm := Q.mk hm
    refine wpIn_wide.2 ?_
    go_wp2
    refine ⟨by simp, .inl ⟨_, _, rfl, run_takeDeferred hK, ?_⟩⟩
    refine ⟨_, results_tmp rfl _ _ _, _, rfl, ?_, ?_⟩
    · have e1 : (mergesL [] x y).take most = pre.map Prod.snd := by
        obtain ⟨r, hr⟩ := hS.out
        rw [← hr, List.take_append_of_le_length (by simp; omega), List.take_of_length_le (by simp; omega)]
      rw [e1]
      have h1 := hOut.out.turns (Turns.putObj W (lo := W2.heap.size) (hi := W2.heap.size + 2 + 4) (l := W2.heap.size) (Nat.le_refl _) (by omega) (.deferred none)) (Nat.le_refl _)
      have h2 := (h1.low (B' := w.heap.size) (by omega)).widen (by have := hOut.out.1; simpa using this) (Nat.le_refl _)
      rw [List.length_map] at h2
      exact h2
    · exact (Turns.putObj W (lo := W2.heap.size) (hi := W2.heap.size + 2 + 4) (l := W2.heap.size) (Nat.le_refl _) (by omega) (.deferred none)).into bel (by omega) bel.size
end Go.Proofs.Ytifakbipdmceiaa
end
