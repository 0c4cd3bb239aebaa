import Derived.Test.YtifakbipdmceiaaJLawA31
import Derived.Test.YtifakbipdmceiaaWLast
set_option linter.unusedVariables false
set_option linter.unusedSimpArgs false
namespace Go.Proofs.Ytifakbipdmceiaa
open Go.RowKit Go.Proofs.YtifakbipdmceiaaW.PrintLast

def downOk (x y : List Ev) (Ax Ay : Option Addr) (cx cy bx bY ba K1 K2 L l : Nat) (J : List VR → Nat → World → Prop) (rows : List (List Ev)) (pre : List VR) (p : List Ev) (W' : World) : Prop :=
  ∃ xs Z n, xs.map Prod.snd = rows ∧ J (pre ++ xs) Z W' ∧ Z ≤ W'.heap.size ∧ p.length ≤ n ∧ n ≤ x.length + y.length ∧ DSt x y Ax Ay cx cy bx bY ba K1 K2 L l n p W'
def downNo (Jx : List VR → World → Prop) (rows : List (List Ev)) (pre : List VR) (W' : World) : Prop := ∃ q, q.map Prod.snd <+: rows ∧ Jx (pre ++ q) W'
def downPost (x y : List Ev) (Ax Ay : Option Addr) (cx cy bx bY ba K1 K2 L l : Nat) (J : List VR → Nat → World → Prop) (Jx : List VR → World → Prop) (rows : List (List Ev)) (pre : List VR) (p : List Ev) (b : Bool) (W' : World) : Prop :=
  (b = true ∧ downOk x y Ax Ay cx cy bx bY ba K1 K2 L l J rows pre p W') ∨ (b = false ∧ downNo Jx rows pre W')
def DownC (x y : List Ev) (Ax Ay : Option Addr) (cx cy bx bY ba K1 K2 L l : Nat) (J : List VR → Nat → World → Prop) (Jx : List VR → World → Prop) (i k : Nat) : Prop :=
  ∀ (a b : Int) (p : List Ev) (pre : List VR) (Z : Nat) (W : World), a = i → b = k → p.length = i + k → DSt x y Ax Ay cx cy bx bY ba K1 K2 L l p.length p W → J pre Z W → Z ≤ W.heap.size →
    Calls Try.prog 90 #[.int .i64 a, .int .i64 b, .pointer (some ⟨bx, 0, none⟩), .pointer (some ⟨bY, 0, none⟩), .pointer (some ⟨L, 0, none⟩), .pointer (some ⟨L + 2, 0, none⟩), .pointer (some ⟨ba, 0, none⟩), .pointer (some ⟨L + 3, 0, none⟩)] W fun e W' =>
      ∃ r, e = .returned (.bool r) ∧ downPost x y Ax Ay cx cy bx bY ba K1 K2 L l J Jx (mergesL p (x.drop i) (y.drop k)) pre p r W'
theorem DSt.step {x y : List Ev} {Ax Ay : Option Addr} {cx cy bx bY ba K1 K2 L l n : Nat} {p : List Ev} {W w3 : World} {e : Ev} {o : Obj} (h : DSt x y Ax Ay cx cy bx bY ba K1 K2 L l n p W) (F : DFix x y cx cy bx bY ba K1 K2 L)
    (hB3 : BufOk K1 K2 L (x.length + y.length) (p ++ [e]) w3) (hg3 : (W.drew.alloc o).grownBy w3 (some (L + 1))) :
    ∃ W4, W4 = w3.setCell ⟨L + 2, 0, none⟩ (.slice (some ⟨L + 1, 0, none⟩) (p.length + 1) (x.length + y.length)) ∧ DSt x y Ax Ay cx cy bx bY ba K1 K2 L l (p ++ [e]).length (p ++ [e]) W4 ∧ Turns L (L + 4) W W4 := by
  have hz := h.size
  have k2 := F.K
  have fx := F.bx
  have fy := F.bY
  have fa := F.ba
  have g : ∀ b x, W.heap[b]? = some x → b ≠ L + 1 → w3.heap[b]? = some x := fun b x hb hne => gbox hg3 (box_alloc (show W.drew.heap[b]? = some x from hb) o) hne
  have hsame : Same K1 K2 W w3 := (Same.alloc K1 (N := K2) W.drew o (show K2 ≤ W.drew.heap.size from by show K2 ≤ W.heap.size; omega)).trans (Same.grown hg3 (by simp; omega) (fun g e => by cases e; omega))
  refine ⟨_, rfl, ⟨box_far (g _ _ h.hx (by omega)) (by show bx ≠ L + 2; omega) _, box_far (g _ _ h.hy (by omega)) (by show bY ≠ L + 2; omega) _, box_far (g _ _ h.ha (by omega)) (by show ba ≠ L + 2; omega) _,
    box_far (g _ _ h.hY (by omega)) (by show L ≠ L + 2; omega) _, ?_, box_far (g _ _ h.hD (by omega)) (by show L + 3 ≠ L + 2; omega) _, (h.rx.loc hsame).set (.inr (by show K2 ≤ L + 2; omega)) _, (h.ry.loc hsame).set (.inr (by show K2 ≤ L + 2; omega)) _, hB3.loc ?_ (Same.set _ _ _ (.inr (by show K2 ≤ L + 2; omega)) _)⟩, ?_⟩
  · rw [show (p ++ [e]).length = p.length + 1 by simp]
    exact box_set (g _ _ h.hR (by omega)) 0 _
  · exact Below.heap_setCell _ _ _ _ (by show L + 1 ≠ L + 2; omega)
  · have T3 : Turns L (L + 4) (W.drew.alloc o) w3 := ⟨(Below.refl 0 _).grown hg3 (Nat.zero_le _) (fun k e => Nat.zero_le _), fun b hb ho => hg3.block b hb (fun e => by cases e; omega)⟩
    exact (((Turns.drew _).trans (Turns.alloc _ _)).trans T3).trans (Turns.setCell _ (by show L ≤ L + 2; omega) (by show L + 2 < L + 4; omega) _)
section
variable {x y : List Ev} {Ax Ay : Option Addr} {cx cy bx bY ba K1 K2 L l : Nat} {J : List VR → Nat → World → Prop} {Jx : List VR → World → Prop}
theorem DownC.use {i k : Nat} (h : DownC x y Ax Ay cx cy bx bY ba K1 K2 L l J Jx i k) (a b : Int) (p : List Ev) (pre : List VR) (Z : Nat) (W : World) (ha : a = i) (hb : b = k) (hp : p.length = i + k) (hS : DSt x y Ax Ay cx cy bx bY ba K1 K2 L l p.length p W) (hj : J pre Z W) (hZ : Z ≤ W.heap.size) :
    Calls Try.prog 90 #[.int .i64 a, .int .i64 b, .pointer (some ⟨bx, 0, none⟩), .pointer (some ⟨bY, 0, none⟩), .pointer (some ⟨L, 0, none⟩), .pointer (some ⟨L + 2, 0, none⟩), .pointer (some ⟨ba, 0, none⟩), .pointer (some ⟨L + 3, 0, none⟩)] W fun e W' =>
      ∃ r, e = .returned (.bool r) ∧ downPost x y Ax Ay cx cy bx bY ba K1 K2 L l J Jx (mergesL p (x.drop i) (y.drop k)) pre p r W' := h a b p pre Z W ha hb hp hS hj hZ
theorem down_nn (F : DFix x y cx cy bx bY ba K1 K2 L) (hY : YieldsR l K1 K2 L J Jx) (hJ : ∀ s Z A B, J s Z A → Turns L (L + 4) A B → J s Z B) :
    DownC x y Ax Ay cx cy bx bY ba K1 K2 L l J Jx x.length y.length := by
  rintro a b p pre Z W rfl rfl hp hS h0 hZ
  refine (down_leaf x y Ax Ay cx cy bx bY ba K1 K2 L l p J Jx F hY hJ pre Z W hp hS h0 hZ).mono ?_
  rintro e W' ⟨v, r, W1, rfl, hb, h⟩
  refine ⟨r, rfl, ?_⟩
  rw [List.drop_length, List.drop_length, mergesL_nil]
  rcases h with ⟨rfl, h1, h2⟩ | ⟨rfl, h1⟩
  · refine .inl ⟨rfl, [(v, p)], _, p.length, rfl, h1, Nat.le_refl _, Nat.le_refl _, by omega, ?_⟩
    refine (hS.loc F fun b hb' => hb.block b ?_).loc F fun b hb' => h2.same b hb'
    have := hS.size
    have := F.K
    omega
  · exact .inr ⟨rfl, [(v, p)], List.prefix_rfl, h1⟩

theorem downOk.cellY {rows : List (List Ev)} {pre : List VR} {p : List Ev} {W' : World} (h : downOk x y Ax Ay cx cy bx bY ba K1 K2 L l J rows pre p W') : W'.cell? ⟨bY, 0, none⟩ = some (.slice Ay y.length cy) := by
  obtain ⟨xs, Z, n, _, _, _, _, _, hS⟩ := h
  exact box_cells hS.hy 0
theorem downOk.shorter {rows : List (List Ev)} {pre : List VR} {p q : List Ev} {W' : World} (h : downOk x y Ax Ay cx cy bx bY ba K1 K2 L l J rows pre (p ++ q) W') : downOk x y Ax Ay cx cy bx bY ba K1 K2 L l J rows pre p W' := by
  obtain ⟨xs, Z, n, h1, h2, h3, h4, h5, hS⟩ := h
  exact ⟨xs, Z, n, h1, h2, h3, by simp at h4; omega, h5, hS.hx, hS.hy, hS.ha, hS.hY, hS.hR, hS.hD, hS.rx, hS.ry, hS.buf.take⟩

set_option maxHeartbeats 2000000 in
set_option maxRecDepth 100000 in
theorem down_xn (F0 : DFix x y cx cy bx bY ba K1 K2 L) (hJ : ∀ s Z A B, J s Z A → Turns L (L + 4) A B → J s Z B) (i k : Nat) (hi : i < x.length) (hk : k = y.length)
    (H0 : DownC x y Ax Ay cx cy bx bY ba K1 K2 L l J Jx (i + 1) k) : DownC x y Ax Ay cx cy bx bY ba K1 K2 L l J Jx i k := by
  rintro a b p pre Z W ha hb hp hS0 h0 hZ
  subst ha hb
  have HM := mergesL_xn p x y i k hi (by omega)
  obtain ⟨bb, o, e, Ae, ce, hAx, hbN, he, hEOk, x0, x1, x2, x3, x4, x5, x6, x7, x8, x9, x10, x11⟩ := hS0.rx.atE i hi
  rw [he] at HM
  have HJ := Q.mk hJ
  have H := Q.mk H0
  have HS := Q.mk hS0
  have F := Q.mk F0
  have HJ0 := Q.mk h0
  have hz := hS0.size
  have hzd : L + 4 ≤ W.drew.heap.size := hz
  have lx := F0.len
  have e1 : (i == x.length) = false := by simp; omega
  have e3 : decide (k < y.length) = false := by simp; omega
  have lp : p.length + 1 ≤ x.length + y.length := by omega
  have lpi : (p.length : Int) ≤ (x.length : Int) + (y.length : Int) := by omega
  have c1 := box_cells hS0.hx 0
  have c2 := box_cells hS0.hy 0
  have c5 := box_cells hS0.hR 0
  have f5 := box_free hS0.hR 0
  have c6 := box_cells hS0.hD 0
  have k2 := F0.K
  replace HM := Q.mk HM
  replace hEOk := Q.mk hEOk
  replace hp := Q.mk hp
  replace hk := Q.mk hk
  subst hAx
  clear hJ H0 hS0 F0 h0 he
  go_enter Try.func90, Try.ntmps90
  go_wp2
  refine start_ (n := 10) (S := fun w' => w'.cell? ⟨L + 2, 0, none⟩ = some (.slice (some ⟨L + 1, 0, none⟩) p.length (x.length + y.length)) ∧ w'.cell? ⟨bx, 0, none⟩ = some (.slice (some ⟨bb, o, none⟩) x.length cx) ∧ w'.cell? ⟨bb, o + i * 12, none⟩ = some (.int .i64 e.k) ∧ w'.cell? ⟨bb, o + i * 12 + 1, none⟩ = some (.string e.p) ∧ w'.cell? ⟨bb, o + i * 12 + 2, none⟩ = some (.string e.o) ∧ w'.cell? ⟨bb, o + i * 12 + 3, none⟩ = some (.string e.q) ∧ w'.cell? ⟨bb, o + i * 12 + 4, none⟩ = some (.int .i64 e.v.kind) ∧ w'.cell? ⟨bb, o + i * 12 + 5, none⟩ = some (.int .i64 e.v.int) ∧ w'.cell? ⟨bb, o + i * 12 + 6, none⟩ = some (.int .i64 e.v.im) ∧ w'.cell? ⟨bb, o + i * 12 + 7, none⟩ = some (.string e.v.text) ∧ w'.cell? ⟨bb, o + i * 12 + 8, none⟩ = some (.slice Ae e.v.items.length ce) ∧ w'.cell? ⟨bb, o + i * 12 + 9, none⟩ = some (.int .i64 e.a) ∧ w'.cell? ⟨bb, o + i * 12 + 10, none⟩ = some (.int .i64 e.b) ∧ w'.cell? ⟨bb, o + i * 12 + 11, none⟩ = some (.int .i64 e.c)) (ds := [8, 9]) #[false, false, false, false, false, false, false, false, false, false] (by kernel_rfl) rfl rfl (by go_keep) (fun hHeld => ?_)
  refine take_ (i := 0) (N := some 33) (v := ?_) (a' := ?_) #[true, false, false, false, false, false, false, false, false, false] rfl rfl (by kernel_rfl) (fun _ _ _ h => h) (Or.inl ⟨by rfl, ?_⟩) hHeld ?_ ?_
  rotate_left
  · rintro w' ⟨s0_, s1_, s2_, s3_, s4_, s5_, s6_, s7_, s8_, s9_, s10_, s11_, s12_, s13_⟩
    go_simp
    with_reducible rfl
  rotate_left
  · simp only [Act.put, List.setIfInBounds_toArray, List.set_cons_zero, List.set_cons_succ, i64_w, i32_w]
    rfl
  refine pure_ (i := 1) (N := some 34) (v := ?_) (a' := ?_) #[true, true, false, false, false, false, false, false, false, false] rfl rfl (by kernel_rfl) (fun _ _ _ h => h) (Or.inl ⟨by rfl, ?_⟩) ?_ ?_
  rotate_left
  · intro w'
    go_simp
    with_reducible rfl
  rotate_left
  · simp only [Act.put, List.setIfInBounds_toArray, List.set_cons_zero, List.set_cons_succ, i64_w, i32_w]
    rfl
  refine pure_ (i := 2) (N := some 35) (v := ?_) (a' := ?_) #[true, true, true, false, false, false, false, false, false, false] rfl rfl (by kernel_rfl) (fun _ _ _ h => h) (Or.inl ⟨by rfl, ?_⟩) ?_ ?_
  rotate_left
  · intro w'
    go_simp
    with_reducible rfl
  rotate_left
  · simp only [Act.put, List.setIfInBounds_toArray, List.set_cons_zero, List.set_cons_succ, i64_w, i32_w]
    rfl
  refine take_ (i := 3) (N := some 36) (v := ?_) (a' := ?_) #[true, true, true, true, false, false, false, false, false, false] rfl rfl (by kernel_rfl) (fun _ _ _ h => h) (Or.inl ⟨by rfl, ?_⟩) hHeld ?_ ?_
  rotate_left
  · rintro w' ⟨s0_, s1_, s2_, s3_, s4_, s5_, s6_, s7_, s8_, s9_, s10_, s11_, s12_, s13_⟩
    go_simp
    with_reducible rfl
  rotate_left
  · simp only [Act.put, List.setIfInBounds_toArray, List.set_cons_zero, List.set_cons_succ, i64_w, i32_w]
    rfl
  refine pure_ (i := 4) (N := some 37) (v := ?_) (a' := ?_) #[true, true, true, true, true, false, false, false, false, false] rfl rfl (by kernel_rfl) (fun _ _ _ h => h) (Or.inl ⟨by rfl, ?_⟩) ?_ ?_
  rotate_left
  · intro w'
    go_simp
    with_reducible rfl
  rotate_left
  · simp only [Act.put, List.setIfInBounds_toArray, List.set_cons_zero, List.set_cons_succ, i64_w, i32_w]
    rfl
  refine pure_ (i := 5) (N := some 38) (v := ?_) (a' := ?_) #[true, true, true, true, true, true, false, false, false, false] rfl rfl (by kernel_rfl) (fun _ _ _ h => h) (Or.inl ⟨by rfl, ?_⟩) ?_ ?_
  rotate_left
  · intro w'
    go_simp
    with_reducible rfl
  rotate_left
  · simp only [Act.put, List.setIfInBounds_toArray, List.set_cons_zero, List.set_cons_succ, i64_w, i32_w]
    rfl
  refine take_ (i := 6) (N := some 39) (v := ?_) (a' := ?_) #[true, true, true, true, true, true, true, false, false, false] rfl rfl (by kernel_rfl) (fun _ _ _ h => h) (Or.inl ⟨by rfl, ?_⟩) hHeld ?_ ?_
  rotate_left
  · rintro w' ⟨s0_, s1_, s2_, s3_, s4_, s5_, s6_, s7_, s8_, s9_, s10_, s11_, s12_, s13_⟩
    go_simp
    with_reducible rfl
  rotate_left
  · simp only [Act.put, List.setIfInBounds_toArray, List.set_cons_zero, List.set_cons_succ, i64_w, i32_w]
    rfl
  refine one_ (i := 7) (N := some 40) #[true, true, true, true, true, true, true, true, false, false] rfl rfl (by kernel_rfl) (by decide) (fun K hK => ?_)
  go_simp
  refine hK.out _ _ (by go_keep) (fun hHeld => ?_)
  clear hK K
  refine last_ (i := 8) (N := some 41) #[true, true, true, true, true, true, true, true, true, false] rfl rfl (by kernel_rfl) (by decide) (fun K hK => ?_)
  refine step_appendFit _ rfl (.tmp 35) (.tmp 40) 22 rfl Try.underlying22 infoE (K1 := K1) (K2 := K2) (L := L) (p := p) (y := e) (H := W.heap.size) rfl rfl (by rfl) (by rfl) (heap_alloc_new _ _) ((HS.out.buf.loc (W' := W.drew) rfl (fun _ _ _ => rfl)).loc (Below.heap_alloc W.drew _ _ (by omega)) (Same.alloc _ W.drew _ (by omega))) ⟨Ae, ce, (hEOk.out.drew.alloc (by omega) _), rfl⟩ lp k2 ?_
  intro w3 hB3 hg3
  have q5 : w3.heap[L + 2]? = _ := gbox hg3 (box_alloc (show W.drew.heap[L + 2]? = _ from HS.out.hR) _) (by omega)
  have c7 := box_cells q5 0
  have f7 := box_free q5 0
  refine hK.out _ _ ?_
  clear hK K
  refine norm_ (a' := ?_) ?_ ?_
  rotate_left
  · show Act.put _ (some 41) _ = _
    simp only [Act.put, List.setIfInBounds_toArray, List.set_cons_zero, List.set_cons_succ, i64_w, i32_w]
    rfl
  refine last_ (i := 9) (N := none) #[true, true, true, true, true, true, true, true, true, true] rfl rfl (by kernel_rfl) (by decide) (fun K hK => ?_)
  go_simp
  refine hK.out _ _ ?_
  clear hK K
  refine done_ (by kernel_rfl) ?_
  obtain ⟨W4, hW4, hS4, hT4⟩ := HS.out.step F.out hB3 hg3
  rw [← hW4]
  clear hW4
  have hz4 := hT4.low.size
  have c8 := box_cells hS4.hD 0
  replace hS4 := Q.mk hS4
  replace hT4 := Q.mk hT4
  clear c7 f7 q5 hB3 hg3 c1 c2 c5 f5 c6 x0 x1 x2 x3 x4 x5 x6 x7 x8 x9 x10 x11
  go_wp2_with (go_at_call 90; go_loud (with_reducible refine (H.out.use _ _ (p ++ [e]) pre Z W4 (by simp) rfl (by have := hp.out; simp; omega) hS4.out (HJ.out _ _ _ _ HJ0.out hT4.out) (by omega)).mono ?_); rintro e5 W5 ⟨r, rfl, hpost⟩; (rcases hpost with ⟨rfl, hpost⟩ | ⟨rfl, hpost⟩); (try (have d2 := hpost.cellY)))
  · go_ret
    refine ⟨true, rfl, .inl ⟨rfl, ?_⟩⟩
    rw [HM.out]
    exact hpost.shorter
  · go_ret
    refine ⟨false, rfl, .inr ⟨rfl, ?_⟩⟩
    rw [HM.out]
    exact hpost

set_option maxHeartbeats 2000000 in
set_option maxRecDepth 100000 in
theorem down_nx (F0 : DFix x y cx cy bx bY ba K1 K2 L) (hJ : ∀ s Z A B, J s Z A → Turns L (L + 4) A B → J s Z B) (i k : Nat) (hi : i = x.length) (hk : k < y.length)
    (H0 : DownC x y Ax Ay cx cy bx bY ba K1 K2 L l J Jx i (k + 1)) : DownC x y Ax Ay cx cy bx bY ba K1 K2 L l J Jx i k := by
  rintro a b p pre Z W ha hb hp hS0 h0 hZ
  subst ha hb hi
  have HM := mergesL_nx p x y x.length k (by omega) hk
  obtain ⟨bb, o, e, Ae, ce, hAy, hbN, he, hEOk, x0, x1, x2, x3, x4, x5, x6, x7, x8, x9, x10, x11⟩ := hS0.ry.atE k hk
  rw [he] at HM
  have HJ := Q.mk hJ
  have H := Q.mk H0
  have HS := Q.mk hS0
  have F := Q.mk F0
  have HJ0 := Q.mk h0
  have hz := hS0.size
  have hzd : L + 4 ≤ W.drew.heap.size := hz
  have lx := F0.len
  have e1 : (x.length == x.length) = true := by simp
  have e2 : (k == y.length) = false := by simp; omega
  have e3 : decide (x.length < x.length) = false := by simp
  have lp : p.length + 1 ≤ x.length + y.length := by omega
  have lpi : (p.length : Int) ≤ (x.length : Int) + (y.length : Int) := by omega
  have c1 := box_cells hS0.hx 0
  have c2 := box_cells hS0.hy 0
  have c5 := box_cells hS0.hR 0
  have f5 := box_free hS0.hR 0
  have c6 := box_cells hS0.hD 0
  have k2 := F0.K
  replace HM := Q.mk HM
  replace hEOk := Q.mk hEOk
  replace hp := Q.mk hp
  subst hAy
  clear hJ H0 hS0 F0 h0 he
  go_enter Try.func90, Try.ntmps90
  go_wp2
  refine start_ (n := 10) (S := fun w' => w'.cell? ⟨L + 2, 0, none⟩ = some (.slice (some ⟨L + 1, 0, none⟩) p.length (x.length + y.length)) ∧ w'.cell? ⟨bY, 0, none⟩ = some (.slice (some ⟨bb, o, none⟩) y.length cy) ∧ w'.cell? ⟨bb, o + k * 12, none⟩ = some (.int .i64 e.k) ∧ w'.cell? ⟨bb, o + k * 12 + 1, none⟩ = some (.string e.p) ∧ w'.cell? ⟨bb, o + k * 12 + 2, none⟩ = some (.string e.o) ∧ w'.cell? ⟨bb, o + k * 12 + 3, none⟩ = some (.string e.q) ∧ w'.cell? ⟨bb, o + k * 12 + 4, none⟩ = some (.int .i64 e.v.kind) ∧ w'.cell? ⟨bb, o + k * 12 + 5, none⟩ = some (.int .i64 e.v.int) ∧ w'.cell? ⟨bb, o + k * 12 + 6, none⟩ = some (.int .i64 e.v.im) ∧ w'.cell? ⟨bb, o + k * 12 + 7, none⟩ = some (.string e.v.text) ∧ w'.cell? ⟨bb, o + k * 12 + 8, none⟩ = some (.slice Ae e.v.items.length ce) ∧ w'.cell? ⟨bb, o + k * 12 + 9, none⟩ = some (.int .i64 e.a) ∧ w'.cell? ⟨bb, o + k * 12 + 10, none⟩ = some (.int .i64 e.b) ∧ w'.cell? ⟨bb, o + k * 12 + 11, none⟩ = some (.int .i64 e.c)) (ds := [8, 9]) #[false, false, false, false, false, false, false, false, false, false] (by kernel_rfl) rfl rfl (by go_keep) (fun hHeld => ?_)
  refine take_ (i := 0) (N := some 52) (v := ?_) (a' := ?_) #[true, false, false, false, false, false, false, false, false, false] rfl rfl (by kernel_rfl) (fun _ _ _ h => h) (Or.inl ⟨by rfl, ?_⟩) hHeld ?_ ?_
  rotate_left
  · rintro w' ⟨s0_, s1_, s2_, s3_, s4_, s5_, s6_, s7_, s8_, s9_, s10_, s11_, s12_, s13_⟩
    go_simp
    with_reducible rfl
  rotate_left
  · simp only [Act.put, List.setIfInBounds_toArray, List.set_cons_zero, List.set_cons_succ, i64_w, i32_w]
    rfl
  refine pure_ (i := 1) (N := some 53) (v := ?_) (a' := ?_) #[true, true, false, false, false, false, false, false, false, false] rfl rfl (by kernel_rfl) (fun _ _ _ h => h) (Or.inl ⟨by rfl, ?_⟩) ?_ ?_
  rotate_left
  · intro w'
    go_simp
    with_reducible rfl
  rotate_left
  · simp only [Act.put, List.setIfInBounds_toArray, List.set_cons_zero, List.set_cons_succ, i64_w, i32_w]
    rfl
  refine pure_ (i := 2) (N := some 54) (v := ?_) (a' := ?_) #[true, true, true, false, false, false, false, false, false, false] rfl rfl (by kernel_rfl) (fun _ _ _ h => h) (Or.inl ⟨by rfl, ?_⟩) ?_ ?_
  rotate_left
  · intro w'
    go_simp
    with_reducible rfl
  rotate_left
  · simp only [Act.put, List.setIfInBounds_toArray, List.set_cons_zero, List.set_cons_succ, i64_w, i32_w]
    rfl
  refine take_ (i := 3) (N := some 55) (v := ?_) (a' := ?_) #[true, true, true, true, false, false, false, false, false, false] rfl rfl (by kernel_rfl) (fun _ _ _ h => h) (Or.inl ⟨by rfl, ?_⟩) hHeld ?_ ?_
  rotate_left
  · rintro w' ⟨s0_, s1_, s2_, s3_, s4_, s5_, s6_, s7_, s8_, s9_, s10_, s11_, s12_, s13_⟩
    go_simp
    with_reducible rfl
  rotate_left
  · simp only [Act.put, List.setIfInBounds_toArray, List.set_cons_zero, List.set_cons_succ, i64_w, i32_w]
    rfl
  refine pure_ (i := 4) (N := some 56) (v := ?_) (a' := ?_) #[true, true, true, true, true, false, false, false, false, false] rfl rfl (by kernel_rfl) (fun _ _ _ h => h) (Or.inl ⟨by rfl, ?_⟩) ?_ ?_
  rotate_left
  · intro w'
    go_simp
    with_reducible rfl
  rotate_left
  · simp only [Act.put, List.setIfInBounds_toArray, List.set_cons_zero, List.set_cons_succ, i64_w, i32_w]
    rfl
  refine pure_ (i := 5) (N := some 57) (v := ?_) (a' := ?_) #[true, true, true, true, true, true, false, false, false, false] rfl rfl (by kernel_rfl) (fun _ _ _ h => h) (Or.inl ⟨by rfl, ?_⟩) ?_ ?_
  rotate_left
  · intro w'
    go_simp
    with_reducible rfl
  rotate_left
  · simp only [Act.put, List.setIfInBounds_toArray, List.set_cons_zero, List.set_cons_succ, i64_w, i32_w]
    rfl
  refine take_ (i := 6) (N := some 58) (v := ?_) (a' := ?_) #[true, true, true, true, true, true, true, false, false, false] rfl rfl (by kernel_rfl) (fun _ _ _ h => h) (Or.inl ⟨by rfl, ?_⟩) hHeld ?_ ?_
  rotate_left
  · rintro w' ⟨s0_, s1_, s2_, s3_, s4_, s5_, s6_, s7_, s8_, s9_, s10_, s11_, s12_, s13_⟩
    go_simp
    with_reducible rfl
  rotate_left
  · simp only [Act.put, List.setIfInBounds_toArray, List.set_cons_zero, List.set_cons_succ, i64_w, i32_w]
    rfl
  refine one_ (i := 7) (N := some 59) #[true, true, true, true, true, true, true, true, false, false] rfl rfl (by kernel_rfl) (by decide) (fun K hK => ?_)
  go_simp
  refine hK.out _ _ (by go_keep) (fun hHeld => ?_)
  clear hK K
  refine last_ (i := 8) (N := some 60) #[true, true, true, true, true, true, true, true, true, false] rfl rfl (by kernel_rfl) (by decide) (fun K hK => ?_)
  refine step_appendFit _ rfl (.tmp 54) (.tmp 59) 22 rfl Try.underlying22 infoE (K1 := K1) (K2 := K2) (L := L) (p := p) (y := e) (H := W.heap.size) rfl rfl (by rfl) (by rfl) (heap_alloc_new _ _) ((HS.out.buf.loc (W' := W.drew) rfl (fun _ _ _ => rfl)).loc (Below.heap_alloc W.drew _ _ (by omega)) (Same.alloc _ W.drew _ (by omega))) ⟨Ae, ce, (hEOk.out.drew.alloc (by omega) _), rfl⟩ lp k2 ?_
  intro w3 hB3 hg3
  have q5 : w3.heap[L + 2]? = _ := gbox hg3 (box_alloc (show W.drew.heap[L + 2]? = _ from HS.out.hR) _) (by omega)
  have c7 := box_cells q5 0
  have f7 := box_free q5 0
  refine hK.out _ _ ?_
  clear hK K
  refine norm_ (a' := ?_) ?_ ?_
  rotate_left
  · show Act.put _ (some 60) _ = _
    simp only [Act.put, List.setIfInBounds_toArray, List.set_cons_zero, List.set_cons_succ, i64_w, i32_w]
    rfl
  refine last_ (i := 9) (N := none) #[true, true, true, true, true, true, true, true, true, true] rfl rfl (by kernel_rfl) (by decide) (fun K hK => ?_)
  go_simp
  refine hK.out _ _ ?_
  clear hK K
  refine done_ (by kernel_rfl) ?_
  obtain ⟨W4, hW4, hS4, hT4⟩ := HS.out.step F.out hB3 hg3
  rw [← hW4]
  clear hW4
  have hz4 := hT4.low.size
  have c8 := box_cells hS4.hD 0
  replace hS4 := Q.mk hS4
  replace hT4 := Q.mk hT4
  clear c7 f7 q5 hB3 hg3 c1 c2 c5 f5 c6 x0 x1 x2 x3 x4 x5 x6 x7 x8 x9 x10 x11
  go_wp2_with (go_at_call 90; (with_reducible refine (H.out.use _ _ (p ++ [e]) pre Z W4 rfl (by simp) (by have := hp.out; simp; omega) hS4.out (HJ.out _ _ _ _ HJ0.out hT4.out) (by omega)).mono ?_); rintro e5 W5 ⟨r, rfl, hpost⟩; (rcases hpost with ⟨rfl, hpost⟩ | ⟨rfl, hpost⟩))
  · go_ret
    refine ⟨true, rfl, .inl ⟨rfl, ?_⟩⟩
    rw [HM.out]
    exact hpost.shorter
  · go_ret
    refine ⟨false, rfl, .inr ⟨rfl, ?_⟩⟩
    rw [HM.out]
    exact hpost

theorem downOk.join {rows rows' : List (List Ev)} {pre xs : List VR} {p : List Ev} {W' : World} (h : downOk x y Ax Ay cx cy bx bY ba K1 K2 L l J rows' (pre ++ xs) p W') (hm : xs.map Prod.snd = rows) : downOk x y Ax Ay cx cy bx bY ba K1 K2 L l J (rows ++ rows') pre p W' := by
  obtain ⟨ys, Z, n, h1, h2, h3, h4, h5, hS⟩ := h
  exact ⟨xs ++ ys, Z, n, by simp [hm, h1], by simpa [List.append_assoc] using h2, h3, h4, h5, hS⟩
theorem downNo.join {rows rows' : List (List Ev)} {pre xs : List VR} {W' : World} (h : downNo Jx rows' (pre ++ xs) W') (hm : xs.map Prod.snd = rows) : downNo Jx (rows ++ rows') pre W' := by
  obtain ⟨q, ⟨r, hr⟩, h2⟩ := h
  exact ⟨xs ++ q, ⟨r, by simp [hm, ← hr]⟩, by simpa [List.append_assoc] using h2⟩
theorem downNo.left {rows rows' : List (List Ev)} {pre : List VR} {W' : World} (h : downNo Jx rows pre W') : downNo Jx (rows ++ rows') pre W' := by
  obtain ⟨q, hq, h2⟩ := h
  exact ⟨q, hq.trans (List.prefix_append _ _), h2⟩

set_option maxHeartbeats 4000000 in
set_option maxRecDepth 100000 in
theorem down_xx (F0 : DFix x y cx cy bx bY ba K1 K2 L) (hJ : ∀ s Z A B, J s Z A → Turns L (L + 4) A B → J s Z B) (i k : Nat) (hi : i < x.length) (hk : k < y.length)
    (H0 : DownC x y Ax Ay cx cy bx bY ba K1 K2 L l J Jx (i + 1) k) (H10 : DownC x y Ax Ay cx cy bx bY ba K1 K2 L l J Jx i (k + 1)) : DownC x y Ax Ay cx cy bx bY ba K1 K2 L l J Jx i k := by
  rintro a b p pre Z W ha hb hp hS0 h0 hZ
  subst ha hb
  have HM := mergesL_xx p x y i k hi hk
  obtain ⟨bb, o, e, Ae, ce, hAx, hbN, he, hEOk, x0, x1, x2, x3, x4, x5, x6, x7, x8, x9, x10, x11⟩ := hS0.rx.atE i hi
  rw [he] at HM
  have HJ := Q.mk hJ
  have H := Q.mk H0
  have H1 := Q.mk H10
  have HS := Q.mk hS0
  have F := Q.mk F0
  have HJ0 := Q.mk h0
  have hz := hS0.size
  have hzd : L + 4 ≤ W.drew.heap.size := hz
  have lx := F0.len
  have e1 : (i == x.length) = false := by simp; omega
  have lp : p.length + 1 ≤ x.length + y.length := by omega
  have lpi : (p.length : Int) ≤ (x.length : Int) + (y.length : Int) := by omega
  have c1 := box_cells hS0.hx 0
  have c2 := box_cells hS0.hy 0
  have c5 := box_cells hS0.hR 0
  have f5 := box_free hS0.hR 0
  have c6 := box_cells hS0.hD 0
  have k2 := F0.K
  replace HM := Q.mk HM
  replace hEOk := Q.mk hEOk
  replace hp := Q.mk hp
  subst hAx
  clear hJ H0 H10 hS0 F0 h0 he
  go_enter Try.func90, Try.ntmps90
  go_wp2
  refine start_ (n := 10) (S := fun w' => w'.cell? ⟨L + 2, 0, none⟩ = some (.slice (some ⟨L + 1, 0, none⟩) p.length (x.length + y.length)) ∧ w'.cell? ⟨bx, 0, none⟩ = some (.slice (some ⟨bb, o, none⟩) x.length cx) ∧ w'.cell? ⟨bb, o + i * 12, none⟩ = some (.int .i64 e.k) ∧ w'.cell? ⟨bb, o + i * 12 + 1, none⟩ = some (.string e.p) ∧ w'.cell? ⟨bb, o + i * 12 + 2, none⟩ = some (.string e.o) ∧ w'.cell? ⟨bb, o + i * 12 + 3, none⟩ = some (.string e.q) ∧ w'.cell? ⟨bb, o + i * 12 + 4, none⟩ = some (.int .i64 e.v.kind) ∧ w'.cell? ⟨bb, o + i * 12 + 5, none⟩ = some (.int .i64 e.v.int) ∧ w'.cell? ⟨bb, o + i * 12 + 6, none⟩ = some (.int .i64 e.v.im) ∧ w'.cell? ⟨bb, o + i * 12 + 7, none⟩ = some (.string e.v.text) ∧ w'.cell? ⟨bb, o + i * 12 + 8, none⟩ = some (.slice Ae e.v.items.length ce) ∧ w'.cell? ⟨bb, o + i * 12 + 9, none⟩ = some (.int .i64 e.a) ∧ w'.cell? ⟨bb, o + i * 12 + 10, none⟩ = some (.int .i64 e.b) ∧ w'.cell? ⟨bb, o + i * 12 + 11, none⟩ = some (.int .i64 e.c)) (ds := [8, 9]) #[false, false, false, false, false, false, false, false, false, false] (by kernel_rfl) rfl rfl (by go_keep) (fun hHeld => ?_)
  refine take_ (i := 0) (N := some 33) (v := ?_) (a' := ?_) #[true, false, false, false, false, false, false, false, false, false] rfl rfl (by kernel_rfl) (fun _ _ _ h => h) (Or.inl ⟨by rfl, ?_⟩) hHeld ?_ ?_
  rotate_left
  · rintro w' ⟨s0_, s1_, s2_, s3_, s4_, s5_, s6_, s7_, s8_, s9_, s10_, s11_, s12_, s13_⟩
    go_simp
    with_reducible rfl
  rotate_left
  · simp only [Act.put, List.setIfInBounds_toArray, List.set_cons_zero, List.set_cons_succ, i64_w, i32_w]
    rfl
  refine pure_ (i := 1) (N := some 34) (v := ?_) (a' := ?_) #[true, true, false, false, false, false, false, false, false, false] rfl rfl (by kernel_rfl) (fun _ _ _ h => h) (Or.inl ⟨by rfl, ?_⟩) ?_ ?_
  rotate_left
  · intro w'
    go_simp
    with_reducible rfl
  rotate_left
  · simp only [Act.put, List.setIfInBounds_toArray, List.set_cons_zero, List.set_cons_succ, i64_w, i32_w]
    rfl
  refine pure_ (i := 2) (N := some 35) (v := ?_) (a' := ?_) #[true, true, true, false, false, false, false, false, false, false] rfl rfl (by kernel_rfl) (fun _ _ _ h => h) (Or.inl ⟨by rfl, ?_⟩) ?_ ?_
  rotate_left
  · intro w'
    go_simp
    with_reducible rfl
  rotate_left
  · simp only [Act.put, List.setIfInBounds_toArray, List.set_cons_zero, List.set_cons_succ, i64_w, i32_w]
    rfl
  refine take_ (i := 3) (N := some 36) (v := ?_) (a' := ?_) #[true, true, true, true, false, false, false, false, false, false] rfl rfl (by kernel_rfl) (fun _ _ _ h => h) (Or.inl ⟨by rfl, ?_⟩) hHeld ?_ ?_
  rotate_left
  · rintro w' ⟨s0_, s1_, s2_, s3_, s4_, s5_, s6_, s7_, s8_, s9_, s10_, s11_, s12_, s13_⟩
    go_simp
    with_reducible rfl
  rotate_left
  · simp only [Act.put, List.setIfInBounds_toArray, List.set_cons_zero, List.set_cons_succ, i64_w, i32_w]
    rfl
  refine pure_ (i := 4) (N := some 37) (v := ?_) (a' := ?_) #[true, true, true, true, true, false, false, false, false, false] rfl rfl (by kernel_rfl) (fun _ _ _ h => h) (Or.inl ⟨by rfl, ?_⟩) ?_ ?_
  rotate_left
  · intro w'
    go_simp
    with_reducible rfl
  rotate_left
  · simp only [Act.put, List.setIfInBounds_toArray, List.set_cons_zero, List.set_cons_succ, i64_w, i32_w]
    rfl
  refine pure_ (i := 5) (N := some 38) (v := ?_) (a' := ?_) #[true, true, true, true, true, true, false, false, false, false] rfl rfl (by kernel_rfl) (fun _ _ _ h => h) (Or.inl ⟨by rfl, ?_⟩) ?_ ?_
  rotate_left
  · intro w'
    go_simp
    with_reducible rfl
  rotate_left
  · simp only [Act.put, List.setIfInBounds_toArray, List.set_cons_zero, List.set_cons_succ, i64_w, i32_w]
    rfl
  refine take_ (i := 6) (N := some 39) (v := ?_) (a' := ?_) #[true, true, true, true, true, true, true, false, false, false] rfl rfl (by kernel_rfl) (fun _ _ _ h => h) (Or.inl ⟨by rfl, ?_⟩) hHeld ?_ ?_
  rotate_left
  · rintro w' ⟨s0_, s1_, s2_, s3_, s4_, s5_, s6_, s7_, s8_, s9_, s10_, s11_, s12_, s13_⟩
    go_simp
    with_reducible rfl
  rotate_left
  · simp only [Act.put, List.setIfInBounds_toArray, List.set_cons_zero, List.set_cons_succ, i64_w, i32_w]
    rfl
  refine one_ (i := 7) (N := some 40) #[true, true, true, true, true, true, true, true, false, false] rfl rfl (by kernel_rfl) (by decide) (fun K hK => ?_)
  go_simp
  refine hK.out _ _ (by go_keep) (fun hHeld => ?_)
  clear hK K
  refine last_ (i := 8) (N := some 41) #[true, true, true, true, true, true, true, true, true, false] rfl rfl (by kernel_rfl) (by decide) (fun K hK => ?_)
  refine step_appendFit _ rfl (.tmp 35) (.tmp 40) 22 rfl Try.underlying22 infoE (K1 := K1) (K2 := K2) (L := L) (p := p) (y := e) (H := W.heap.size) rfl rfl (by rfl) (by rfl) (heap_alloc_new _ _) ((HS.out.buf.loc (W' := W.drew) rfl (fun _ _ _ => rfl)).loc (Below.heap_alloc W.drew _ _ (by omega)) (Same.alloc _ W.drew _ (by omega))) ⟨Ae, ce, (hEOk.out.drew.alloc (by omega) _), rfl⟩ lp k2 ?_
  intro w3 hB3 hg3
  have q5 : w3.heap[L + 2]? = _ := gbox hg3 (box_alloc (show W.drew.heap[L + 2]? = _ from HS.out.hR) _) (by omega)
  have c7 := box_cells q5 0
  have f7 := box_free q5 0
  refine hK.out _ _ ?_
  clear hK K
  refine norm_ (a' := ?_) ?_ ?_
  rotate_left
  · show Act.put _ (some 41) _ = _
    simp only [Act.put, List.setIfInBounds_toArray, List.set_cons_zero, List.set_cons_succ, i64_w, i32_w]
    rfl
  refine last_ (i := 9) (N := none) #[true, true, true, true, true, true, true, true, true, true] rfl rfl (by kernel_rfl) (by decide) (fun K hK => ?_)
  go_simp
  refine hK.out _ _ ?_
  clear hK K
  refine done_ (by kernel_rfl) ?_
  obtain ⟨W4, hW4, hS4, hT4⟩ := HS.out.step F.out hB3 hg3
  rw [← hW4]
  clear hW4
  have hz4 := hT4.low.size
  have c8 := box_cells hS4.hD 0
  replace hS4 := Q.mk hS4
  replace hT4 := Q.mk hT4
  clear c7 f7 q5 hB3 hg3 c1 c2 c5 f5 c6 x0 x1 x2 x3 x4 x5 x6 x7 x8 x9 x10 x11
  go_wp2_with (go_at_call 90; (with_reducible refine (H.out.use _ _ (p ++ [e]) pre Z W4 (by simp) rfl (by have := hp.out; simp; omega) hS4.out (HJ.out _ _ _ _ HJ0.out hT4.out) (by omega)).mono ?_); rintro e5 W5 ⟨r, rfl, hpost⟩; (rcases hpost with ⟨rfl, hpost⟩ | ⟨rfl, hpost⟩); (try (have d2 := hpost.cellY)))
  · obtain ⟨xs, Z5, n5, hm5, hJ5, hZ5, hn5, hn5', hS5⟩ := hpost.shorter
    obtain ⟨b5, o5, e5, Ae5, ce5, hAy, hbN5, he5, hEOk5, x0, x1, x2, x3, x4, x5, x6, x7, x8, x9, x10, x11⟩ := hS5.ry.atE k hk
    rw [he5] at HM
    clear hpost he5
    have lni : (p.length : Int) ≤ (n5 : Int) := by omega
    have hz5 := hS5.size
    have hzd5 : L + 4 ≤ W5.drew.heap.size := hz5
    subst hAy
    have c1 := box_cells hS5.hx 0
    have c2 := box_cells hS5.hy 0
    have c5 := box_cells hS5.hR 0
    have f5 := box_free hS5.hR 0
    have c6 := box_cells hS5.hD 0
    replace hm5 := Q.mk hm5
    replace hEOk5 := Q.mk hEOk5
    replace hS5 := Q.mk hS5
    replace hJ5 := Q.mk hJ5
    clear c8 hS4 hT4
    go_wp2
    refine start_ (n := 10) (S := fun w' => w'.cell? ⟨L + 2, 0, none⟩ = some (.slice (some ⟨L + 1, 0, none⟩) n5 (x.length + y.length)) ∧ w'.cell? ⟨bY, 0, none⟩ = some (.slice (some ⟨b5, o5, none⟩) y.length cy) ∧ w'.cell? ⟨b5, o5 + k * 12, none⟩ = some (.int .i64 e5.k) ∧ w'.cell? ⟨b5, o5 + k * 12 + 1, none⟩ = some (.string e5.p) ∧ w'.cell? ⟨b5, o5 + k * 12 + 2, none⟩ = some (.string e5.o) ∧ w'.cell? ⟨b5, o5 + k * 12 + 3, none⟩ = some (.string e5.q) ∧ w'.cell? ⟨b5, o5 + k * 12 + 4, none⟩ = some (.int .i64 e5.v.kind) ∧ w'.cell? ⟨b5, o5 + k * 12 + 5, none⟩ = some (.int .i64 e5.v.int) ∧ w'.cell? ⟨b5, o5 + k * 12 + 6, none⟩ = some (.int .i64 e5.v.im) ∧ w'.cell? ⟨b5, o5 + k * 12 + 7, none⟩ = some (.string e5.v.text) ∧ w'.cell? ⟨b5, o5 + k * 12 + 8, none⟩ = some (.slice Ae5 e5.v.items.length ce5) ∧ w'.cell? ⟨b5, o5 + k * 12 + 9, none⟩ = some (.int .i64 e5.a) ∧ w'.cell? ⟨b5, o5 + k * 12 + 10, none⟩ = some (.int .i64 e5.b) ∧ w'.cell? ⟨b5, o5 + k * 12 + 11, none⟩ = some (.int .i64 e5.c)) (ds := [8, 9]) #[false, false, false, false, false, false, false, false, false, false] (by kernel_rfl) rfl rfl (by go_keep) (fun hHeld => ?_)
    refine take_ (i := 0) (N := some 52) (v := ?_) (a' := ?_) #[true, false, false, false, false, false, false, false, false, false] rfl rfl (by kernel_rfl) (fun _ _ _ h => h) (Or.inl ⟨by rfl, ?_⟩) hHeld ?_ ?_
    rotate_left
    · rintro w' ⟨s0_, s1_, s2_, s3_, s4_, s5_, s6_, s7_, s8_, s9_, s10_, s11_, s12_, s13_⟩
      go_simp
      with_reducible rfl
    rotate_left
    · simp only [Act.put, List.setIfInBounds_toArray, List.set_cons_zero, List.set_cons_succ, i64_w, i32_w]
      rfl
    refine pure_ (i := 1) (N := some 53) (v := ?_) (a' := ?_) #[true, true, false, false, false, false, false, false, false, false] rfl rfl (by kernel_rfl) (fun _ _ _ h => h) (Or.inl ⟨by rfl, ?_⟩) ?_ ?_
    rotate_left
    · intro w'
      go_simp
      with_reducible rfl
    rotate_left
    · simp only [Act.put, List.setIfInBounds_toArray, List.set_cons_zero, List.set_cons_succ, i64_w, i32_w]
      rfl
    refine pure_ (i := 2) (N := some 54) (v := ?_) (a' := ?_) #[true, true, true, false, false, false, false, false, false, false] rfl rfl (by kernel_rfl) (fun _ _ _ h => h) (Or.inl ⟨by rfl, ?_⟩) ?_ ?_
    rotate_left
    · intro w'
      go_simp
      with_reducible rfl
    rotate_left
    · simp only [Act.put, List.setIfInBounds_toArray, List.set_cons_zero, List.set_cons_succ, i64_w, i32_w]
      rfl
    refine take_ (i := 3) (N := some 55) (v := ?_) (a' := ?_) #[true, true, true, true, false, false, false, false, false, false] rfl rfl (by kernel_rfl) (fun _ _ _ h => h) (Or.inl ⟨by rfl, ?_⟩) hHeld ?_ ?_
    rotate_left
    · rintro w' ⟨s0_, s1_, s2_, s3_, s4_, s5_, s6_, s7_, s8_, s9_, s10_, s11_, s12_, s13_⟩
      go_simp
      with_reducible rfl
    rotate_left
    · simp only [Act.put, List.setIfInBounds_toArray, List.set_cons_zero, List.set_cons_succ, i64_w, i32_w]
      rfl
    refine pure_ (i := 4) (N := some 56) (v := ?_) (a' := ?_) #[true, true, true, true, true, false, false, false, false, false] rfl rfl (by kernel_rfl) (fun _ _ _ h => h) (Or.inl ⟨by rfl, ?_⟩) ?_ ?_
    rotate_left
    · intro w'
      go_simp
      with_reducible rfl
    rotate_left
    · simp only [Act.put, List.setIfInBounds_toArray, List.set_cons_zero, List.set_cons_succ, i64_w, i32_w]
      rfl
    refine pure_ (i := 5) (N := some 57) (v := ?_) (a' := ?_) #[true, true, true, true, true, true, false, false, false, false] rfl rfl (by kernel_rfl) (fun _ _ _ h => h) (Or.inl ⟨by rfl, ?_⟩) ?_ ?_
    rotate_left
    · intro w'
      go_simp
      with_reducible rfl
    rotate_left
    · simp only [Act.put, List.setIfInBounds_toArray, List.set_cons_zero, List.set_cons_succ, i64_w, i32_w]
      rfl
    refine take_ (i := 6) (N := some 58) (v := ?_) (a' := ?_) #[true, true, true, true, true, true, true, false, false, false] rfl rfl (by kernel_rfl) (fun _ _ _ h => h) (Or.inl ⟨by rfl, ?_⟩) hHeld ?_ ?_
    rotate_left
    · rintro w' ⟨s0_, s1_, s2_, s3_, s4_, s5_, s6_, s7_, s8_, s9_, s10_, s11_, s12_, s13_⟩
      go_simp
      with_reducible rfl
    rotate_left
    · simp only [Act.put, List.setIfInBounds_toArray, List.set_cons_zero, List.set_cons_succ, i64_w, i32_w]
      rfl
    refine one_ (i := 7) (N := some 59) #[true, true, true, true, true, true, true, true, false, false] rfl rfl (by kernel_rfl) (by decide) (fun K hK => ?_)
    go_simp
    refine hK.out _ _ (by go_keep) (fun hHeld => ?_)
    clear hK K
    refine last_ (i := 8) (N := some 60) #[true, true, true, true, true, true, true, true, true, false] rfl rfl (by kernel_rfl) (by decide) (fun K hK => ?_)
    refine step_appendFit _ rfl (.tmp 54) (.tmp 59) 22 rfl Try.underlying22 infoE (K1 := K1) (K2 := K2) (L := L) (p := p) (y := e5) (H := W5.heap.size) rfl rfl (by rfl) (by rfl) (heap_alloc_new _ _) ((hS5.out.buf.loc (W' := W5.drew) rfl (fun _ _ _ => rfl)).loc (Below.heap_alloc W5.drew _ _ (by omega)) (Same.alloc _ W5.drew _ (by omega))) ⟨Ae5, ce5, (hEOk5.out.drew.alloc (by omega) _), rfl⟩ lp k2 ?_
    intro w3 hB3 hg3
    have q5 : w3.heap[L + 2]? = _ := gbox hg3 (box_alloc (show W5.drew.heap[L + 2]? = _ from hS5.out.hR) _) (by omega)
    have c7 := box_cells q5 0
    have f7 := box_free q5 0
    refine hK.out _ _ ?_
    clear hK K
    refine norm_ (a' := ?_) ?_ ?_
    rotate_left
    · show Act.put _ (some 60) _ = _
      simp only [Act.put, List.setIfInBounds_toArray, List.set_cons_zero, List.set_cons_succ, i64_w, i32_w]
      rfl
    refine last_ (i := 9) (N := none) #[true, true, true, true, true, true, true, true, true, true] rfl rfl (by kernel_rfl) (by decide) (fun K hK => ?_)
    go_simp
    refine hK.out _ _ ?_
    clear hK K
    refine done_ (by kernel_rfl) ?_
    obtain ⟨W6, hW6, hS6, hT6⟩ := hS5.out.step F.out hB3 hg3
    rw [← hW6]
    clear hW6
    have hz6 := hT6.low.size
    have c8 := box_cells hS6.hD 0
    replace hS6 := Q.mk hS6
    replace hT6 := Q.mk hT6
    clear c7 f7 q5 hB3 hg3 c1 c2 c5 f5 c6 d2 x0 x1 x2 x3 x4 x5 x6 x7 x8 x9 x10 x11
    go_wp2_with (go_at_call 90; (with_reducible refine (H1.out.use _ _ (p ++ [e5]) (pre ++ xs) Z5 W6 rfl (by simp) (by have := hp.out; simp; omega) hS6.out (HJ.out _ _ _ _ hJ5.out hT6.out) (by omega)).mono ?_); rintro e7 W7 ⟨r, rfl, hpost⟩; (rcases hpost with ⟨rfl, hpost⟩ | ⟨rfl, hpost⟩))
    · go_ret
      refine ⟨true, rfl, .inl ⟨rfl, ?_⟩⟩
      rw [HM.out]
      exact hpost.shorter.join hm5.out
    · go_ret
      refine ⟨false, rfl, .inr ⟨rfl, ?_⟩⟩
      rw [HM.out]
      exact hpost.join hm5.out
  · go_ret
    refine ⟨false, rfl, .inr ⟨rfl, ?_⟩⟩
    rw [HM.out]
    exact hpost.left

theorem down_any (F : DFix x y cx cy bx bY ba K1 K2 L) (hY : YieldsR l K1 K2 L J Jx) (hJ : ∀ s Z A B, J s Z A → Turns L (L + 4) A B → J s Z B) (d : Nat) :
    ∀ i k, i ≤ x.length → k ≤ y.length → (x.length - i) + (y.length - k) = d → DownC x y Ax Ay cx cy bx bY ba K1 K2 L l J Jx i k := by
  induction d with
  | zero =>
    intro i k hi hk hd
    obtain rfl : i = x.length := by omega
    obtain rfl : k = y.length := by omega
    exact down_nn F hY hJ
  | succ d ih =>
    intro i k hi hk hd
    rcases Nat.lt_or_ge i x.length with h | h
    · rcases Nat.lt_or_ge k y.length with h' | h'
      · exact down_xx F hJ i k h h' (ih _ _ (by omega) (by omega) (by omega)) (ih _ _ (by omega) (by omega) (by omega))
      · exact down_xn F hJ i k h (by omega) (ih _ _ (by omega) (by omega) (by omega))
    · exact down_nx F hJ i k (by omega) (by omega) (ih _ _ (by omega) (by omega) (by omega))
end
end Go.Proofs.Ytifakbipdmceiaa
