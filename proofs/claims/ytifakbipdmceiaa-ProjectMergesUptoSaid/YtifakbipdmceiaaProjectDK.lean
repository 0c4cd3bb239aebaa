import Derived.Test.YtifakbipdmceiaaMrgLK
import Derived.Test.YtifakbipdmceiaaJLawA24
import Derived.Test.YtifakbipdmceiaaJLawA42
import Derived.Test.YtifakbipdmceiaaJLawA48
import Derived.Deep.LoopGhost
set_option linter.unusedVariables false
set_option linter.unusedSimpArgs false
namespace Go.Proofs.Ytifakbipdmceiaa
open Go.RowKit Go.Proofs.YtifakbipdmceiaaW.PrintLast
attribute [local go_sem] Oper.semAt_some

theorem wp_loop_gk {P : Program} {R : Exit → Act → World → Prop} {a : Act} {w : World} {c : Code} (I : Nat → Act → World → Prop) (n₀ : Nat) (h₀ : I n₀ a w)
    (round : ∀ n a w, I n a w → ∀ (K : Act → World → Prop), Q (∀ a' w' n', n' < n → I n' a' w' → K a' w') → c.wp P (Exit.then K R) a w) : (Code.loop c).wp P R a w :=
  wp_loop_ghost I n₀ h₀ fun n a w h => round n a w h _ ⟨fun _ _ n' h1 h2 => ⟨n', h1, h2⟩⟩
theorem boxes3 (w : World) (o p q : Obj) : ∃ W, W = ((w.alloc o).alloc p).alloc q ∧ W.heap[w.heap.size]? = some o ∧ W.heap[w.heap.size + 1]? = some p ∧ W.heap[w.heap.size + 2]? = some q ∧ Below w.heap.size w W ∧ W.heap.size = w.heap.size + 3 := by
  refine ⟨_, rfl, ?_, ?_, ?_, (((Below.refl _ _).alloc (Nat.le_refl _) _).alloc (by simp) _).alloc (by simp; omega) _, by simp⟩
  · exact box_alloc (box_alloc (heap_alloc_new _ _) _) _
  · exact box_alloc (heap_alloc_at _ _ (by simp)) _
  · exact heap_alloc_at _ _ (by simp)
structure TurnI (W3 : World) (tn bT : Nat) (ds : List Deferred) (W : World) : Prop where
  bel : Below W3.heap.size W3 W
  hT : W.heap[bT]? = some (.cells #[.int .i64 tn] 3 (0, 0))
  lo : W3.heap.size ≤ bT
  mks : Marks W3.heap.size ds W
theorem TurnI.next {W3 W5 : World} {tn : Nat} {ds : List Deferred} (hb : Below W3.heap.size W3 W5) (hm : Marks W3.heap.size ds W5) : TurnI W3 (tn + 1) W5.heap.size ds (W5.alloc (.cells #[.int .i64 ((tn : Int) + 1)] 3)) :=
  ⟨hb.alloc hb.size _, by simpa using heap_alloc_new W5 (.cells #[.int .i64 ((tn : Int) + 1)] 3), hb.size, hm.keep (by simp) fun b _ h2 _ => Below.heap_alloc W5 _ b h2⟩
/-- What holds in a turn between two rounds: all as at the turn's start, but for the count. -/
structure BodyI (W : World) (n : Nat) (W5 : World) : Prop where
  bel : Below W.heap.size W W5
  hn : W5.heap[W.heap.size]? = some (.cells #[.int .i64 n] 3 (0, 0))
theorem BodyI.turns {W A B : World} {n lo hi : Nat} (h : BodyI W n A) (ht : Turns lo hi A B) (h1 : W.heap.size < lo) : BodyI W n B :=
  ⟨ht.into h.bel (Nat.le_of_lt h1) h.bel.size, (ht.block _ (box_lt h.hn) (.inl h1)).trans h.hn⟩
theorem BodyI.kept {W A B : World} {n M : Nat} {Aq : Option Addr} (h : BodyI W n A) (hk : Kept (fun b => ablk Aq ≠ some b) A B) (hA : ∀ b, ablk Aq = some b → M ≤ b) (hM : W.heap.size < M) : BodyI W n B :=
  h.turns (lo := W.heap.size + 1) (hi := A.heap.size) ⟨hk.low, fun b h1 h2 => hk.same b fun e => by have := hA b e; omega⟩ (Nat.lt_succ_self _)
theorem BodyI.below {W A B : World} {n : Nat} (h : BodyI W n A) (hb : Below A.heap.size A B) : BodyI W n B :=
  ⟨h.bel.trans (hb.mono h.bel.size), hb.box h.hn (box_lt h.hn)⟩
theorem BodyI.succ {W A : World} {n : Nat} (h : BodyI W n A) : BodyI W (n + 1) (A.setCell ⟨W.heap.size, 0, none⟩ (.int .i64 ((n : Int) + 1))) :=
  ⟨Below.setCell (p := ⟨W.heap.size, 0, none⟩) h.bel (Nat.le_refl _) _, by simpa using box_set h.hn 0 (.int .i64 ((n : Int) + 1))⟩
set_option maxHeartbeats 4000000 in
set_option maxRecDepth 100000 in
theorem merges_law (x y : List Ev) (stop : Int) (A A' : Option Addr) (c c' B0 N0 : Nat) (w : World) (hx0 : Row eEl B0 N0 w A x) (hy0 : Row eEl B0 N0 w A' y) (hN : N0 ≤ w.heap.size) (hc : x.length ≤ c) (hc' : y.length ≤ c') (hlen : (x.length + y.length) * 144 ≤ 140737488355328) :
    Calls Try.prog 6 #[.slice A x.length c, .slice A' y.length c', .int .i64 stop] w fun e w' => e = .returned (.bool true) ∧ Below w.heap.size w w' := by
  obtain ⟨want, hwant⟩ : ∃ v, v = (mergesL [] x y).take 200 := ⟨_, rfl⟩
  have HM : Q (∀ W, Below w.heap.size w W → Calls Try.prog 35 #[.slice A x.length c, .slice A' y.length c', .int .i64 200] W fun e w' => ∃ A c, e = .returned (.slice A want.length c) ∧ Row rEl 0 w'.heap.size w' A want ∧ Below W.heap.size W w') := ⟨fun W hb => by rw [hwant]; exact Merges_ref x y A A' c c' B0 N0 W (hx0.below hb hN) (hy0.below hb hN) (by have := hb.size; omega) hc hc' hlen⟩
  have HP : Q (∀ W, Below w.heap.size w W → Calls Try.prog 36 #[.slice A x.length c, .slice A' y.length c'] W _) := ⟨fun W hb => merges_any x y A A' c c' B0 N0 W (hx0.below hb hN) (hy0.below hb hN) (by have := hb.size; omega) hc hc'⟩
  replace hwant := Q.mk hwant
  clear hx0 hy0
  obtain ⟨W0, hW0, b5, b6, b7, B0_, Z0⟩ := boxes3 w (.cells #[.int .i64 stop] 3) (.cells #[.bool false] 4) (.cells #[.int .i64 200] 3)
  replace b5 := Q.mk b5
  replace b6 := Q.mk b6
  replace b7 := Q.mk b7
  have HM0 := Q.mk (HM.out W0 B0_)
  clear HM
  have hq : ∀ (cap : Array Value) (w : World), (binOp BinOp.eql 49 (.func (.func 89) #[] cap) .nilFunc).run Try.prog w = .ok (.bool false) w := fun cap w => by rfl
  refine callsIn_wide.1 (callsIn_of_wp_marks (n := 0) Try.func6 rfl trivial ?_)
  simp only [Try.ntmps6, List.size_toArray, List.length_cons, List.length_nil, Nat.reduceAdd, Nat.reduceSub, Array.replicate_succ, Array.replicate_zero, List.push_toArray, List.append_toArray, List.nil_append, List.cons_append]
  refine wpIn_wide.2 ?_
  go_wp2_with (first
    | (go_at_call 35; rw [← hW0]; clear hW0; refine HM0.out.mono ?_; rintro e w1 ⟨A2, c2, rfl, hr1, hb1⟩; (obtain ⟨W2, hW2, b8, BB2, Z2⟩ := boxes1 w1 (.cells #[.slice A2 want.length c2] 46)); have z1 := hb1.size; have HP0 := Q.mk (HP.out W2 ((B0_.trans (hb1.mono (by omega))).trans (BB2.mono (by omega)))); replace hr1 := Q.mk hr1)
    | (go_at_call 36; rw [← hW2]; clear hW2; refine HP0.out.mono ?_; rintro e W3 ⟨Ax, Ay, cx, cy, bx, bY, ba, rfl, hb3, hM⟩; have z3 := hb3.size; replace hM := Q.mk hM))
  clear hq
  have hw3 : Q (Below w.heap.size w W3) := ⟨((B0_.trans (hb1.mono (by omega))).trans (BB2.mono (by omega))).trans (hb3.mono (by omega))⟩
  have q5 := hb3.box (BB2.box (hb1.box b5.out (by omega)) (by omega)) (by omega)
  have q6 := hb3.box (BB2.box (hb1.box b6.out (by omega)) (by omega)) (by omega)
  have q7 := hb3.box (BB2.box (hb1.box b7.out (by omega)) (by omega)) (by omega)
  have q8 := hb3.box b8.out (by omega)
  replace q5 := Q.mk q5
  replace q6 := Q.mk q6
  replace q7 := Q.mk q7
  replace q8 := Q.mk q8
  have hr3 : Q (Row rEl 0 w1.heap.size W3 A2 want) := ⟨(hr1.out.below BB2 (Nat.le_refl _)).below hb3 (by omega)⟩
  have zz : w.heap.size + 3 ≤ w1.heap.size ∧ w1.heap.size < W3.heap.size ∧ w1.heap.size < W2.heap.size := by omega
  clear hb1 BB2 hb3 hr1 b5 b6 b7 b8 B0_ HM0 HP0 HP z1 z3 Z0 Z2
  refine wp_loop_gk (fun n a' W => ∃ (tn bT : Nat) (ds : List Deferred), (tn + n = 2 ∧ Q (TurnI W3 tn bT ds W)) ∧ a' = { tmps := #[.slice A x.length c, .slice A' y.length c', .int .i64 stop, undef, undef, .pointer (some ⟨w.heap.size, 0, none⟩), .pointer (some ⟨w.heap.size + 1, 0, none⟩), .pointer (some ⟨w.heap.size + 1 + 1, 0, none⟩), .pointer (some ⟨w1.heap.size, 0, none⟩), .func (.func 89) #[] #[.pointer (some ⟨bx, 0, none⟩), .pointer (some ⟨bY, 0, none⟩), .pointer (some ⟨ba, 0, none⟩)], .pointer (some ⟨bT, 0, none⟩), a'.tmps.getD 11 undef, a'.tmps.getD 12 undef, a'.tmps.getD 13 undef, .slice A x.length c, .slice A' y.length c', .int .i64 200, .slice A2 want.length c2, .slice A x.length c, .slice A' y.length c', .func (.func 89) #[] #[.pointer (some ⟨bx, 0, none⟩), .pointer (some ⟨bY, 0, none⟩), .pointer (some ⟨ba, 0, none⟩)], .func (.func 89) #[] #[.pointer (some ⟨bx, 0, none⟩), .pointer (some ⟨bY, 0, none⟩), .pointer (some ⟨ba, 0, none⟩)], .bool false, a'.tmps.getD 23 undef, a'.tmps.getD 24 undef, a'.tmps.getD 25 undef, a'.tmps.getD 26 undef, a'.tmps.getD 27 undef, a'.tmps.getD 28 undef, a'.tmps.getD 29 undef, a'.tmps.getD 30 undef, a'.tmps.getD 31 undef, a'.tmps.getD 32 undef, a'.tmps.getD 33 undef, a'.tmps.getD 34 undef, a'.tmps.getD 35 undef, a'.tmps.getD 36 undef, a'.tmps.getD 37 undef, a'.tmps.getD 38 undef, a'.tmps.getD 39 undef, a'.tmps.getD 40 undef, a'.tmps.getD 41 undef, a'.tmps.getD 42 undef, a'.tmps.getD 43 undef, a'.tmps.getD 44 undef, a'.tmps.getD 45 undef, a'.tmps.getD 46 undef, a'.tmps.getD 47 undef, a'.tmps.getD 48 undef, a'.tmps.getD 49 undef, a'.tmps.getD 50 undef, a'.tmps.getD 51 undef, a'.tmps.getD 52 undef, a'.tmps.getD 53 undef, a'.tmps.getD 54 undef, a'.tmps.getD 55 undef, a'.tmps.getD 56 undef, a'.tmps.getD 57 undef, a'.tmps.getD 58 undef, a'.tmps.getD 59 undef, a'.tmps.getD 60 undef, a'.tmps.getD 61 undef, a'.tmps.getD 62 undef, a'.tmps.getD 63 undef, a'.tmps.getD 64 undef, a'.tmps.getD 65 undef, a'.tmps.getD 66 undef, a'.tmps.getD 67 undef, a'.tmps.getD 68 undef, a'.tmps.getD 69 undef, a'.tmps.getD 70 undef, a'.tmps.getD 71 undef, a'.tmps.getD 72 undef, a'.tmps.getD 73 undef, a'.tmps.getD 74 undef, a'.tmps.getD 75 undef, a'.tmps.getD 76 undef, a'.tmps.getD 77 undef, a'.tmps.getD 78 undef, a'.tmps.getD 79 undef, a'.tmps.getD 80 undef], defers := ds }) 2 ?_ ?_
  · exact ⟨0, W3.heap.size, [], ⟨rfl, ⟨(Below.refl _ _).alloc (Nat.le_refl _) _, heap_alloc_new _ _, Nat.le_refl _, Marks.nil _ _⟩⟩, rfl⟩
  rintro n a' W ⟨tn, bT, ds, ⟨hn, hI⟩, ha⟩ KL HKL
  obtain ⟨u, rfl⟩ : ∃ u : Nat → Value, a' = { tmps := #[.slice A x.length c, .slice A' y.length c', .int .i64 stop, undef, undef, .pointer (some ⟨w.heap.size, 0, none⟩), .pointer (some ⟨w.heap.size + 1, 0, none⟩), .pointer (some ⟨w.heap.size + 1 + 1, 0, none⟩), .pointer (some ⟨w1.heap.size, 0, none⟩), .func (.func 89) #[] #[.pointer (some ⟨bx, 0, none⟩), .pointer (some ⟨bY, 0, none⟩), .pointer (some ⟨ba, 0, none⟩)], .pointer (some ⟨bT, 0, none⟩), u 11, u 12, u 13, .slice A x.length c, .slice A' y.length c', .int .i64 200, .slice A2 want.length c2, .slice A x.length c, .slice A' y.length c', .func (.func 89) #[] #[.pointer (some ⟨bx, 0, none⟩), .pointer (some ⟨bY, 0, none⟩), .pointer (some ⟨ba, 0, none⟩)], .func (.func 89) #[] #[.pointer (some ⟨bx, 0, none⟩), .pointer (some ⟨bY, 0, none⟩), .pointer (some ⟨ba, 0, none⟩)], .bool false, u 23, u 24, u 25, u 26, u 27, u 28, u 29, u 30, u 31, u 32, u 33, u 34, u 35, u 36, u 37, u 38, u 39, u 40, u 41, u 42, u 43, u 44, u 45, u 46, u 47, u 48, u 49, u 50, u 51, u 52, u 53, u 54, u 55, u 56, u 57, u 58, u 59, u 60, u 61, u 62, u 63, u 64, u 65, u 66, u 67, u 68, u 69, u 70, u 71, u 72, u 73, u 74, u 75, u 76, u 77, u 78, u 79, u 80], defers := ds } := ⟨fun i => a'.tmps.getD i undef, ha⟩
  clear ha
  have cT := box_cells hI.out.hT 0
  by_cases ht : tn < 2
  · have t1 : decide ((tn : Int) < 2) = true := decide_eq_true (by omega)
    have htn : 1 ≤ n := by omega
    clear ht
    obtain ⟨W4, hW4, bn, BB4, Z4⟩ := boxes1 W (.cells #[.int .i64 0] 3)
    go_wp2_with fail
    rw [← hW4]
    clear hW4
    have Z5 : W.heap.size < W4.heap.size := by omega
    clear Z4
    have z3 := hI.out.bel.size
    refine wp_rangeT (gf := 89) (lb := #[.pointer (some ⟨bx, 0, none⟩), .pointer (some ⟨bY, 0, none⟩), .pointer (some ⟨ba, 0, none⟩)]) rfl (enters_of Try.func89 (by kernel_rfl) rfl)
      (merges2_seq x y Ax Ay cx cy bx bY ba W2.heap.size W3.heap.size W3 hM.out (Nat.le_refl _) hlen) (fun hi x Z A B h ht _ => h.turns ht) (hI.out.bel.trans (BB4.mono z3)) (fun b h => by have := h.2; omega) (fun _ => rfl)
      (fun pre Z W5 => BodyI W pre.length W5 ∧ pre.length < 200 ∧ (tn = 0 → pre.length = 0 ∨ (pre.length : Int) ≠ stop))
      (fun k pre W5 => (k = .exit 2 ∧ BodyI W pre.length W5 ∧ pre.length ≤ 200 ∧ (pre.length = 200 ∨ (tn = 0 ∧ (pre.length : Int) = stop))) ∨ (k = .ret ∧ ¬ pre.map Prod.snd <+: mergesL [] x y))
      (fun s Z A B h ht => ⟨h.1.turns ht (by omega), h.2⟩) (fun k s A B h ht => h.elim (fun h => .inl ⟨h.1, h.2.1.turns ht (by omega), h.2.2⟩) .inr)
      ⟨⟨BB4, bn.out⟩, by simp, fun _ => .inl rfl⟩
      (fun q => { tmps := #[.slice A x.length c, .slice A' y.length c', .int .i64 stop, undef, undef, .pointer (some ⟨w.heap.size, 0, none⟩), .pointer (some ⟨w.heap.size + 1, 0, none⟩), .pointer (some ⟨w.heap.size + 1 + 1, 0, none⟩), .pointer (some ⟨w1.heap.size, 0, none⟩), .func (.func 89) #[] #[.pointer (some ⟨bx, 0, none⟩), .pointer (some ⟨bY, 0, none⟩), .pointer (some ⟨ba, 0, none⟩)], .pointer (some ⟨bT, 0, none⟩), .pointer (some ⟨W.heap.size, 0, none⟩), q.1, u 13, .slice A x.length c, .slice A' y.length c', .int .i64 200, .slice A2 want.length c2, .slice A x.length c, .slice A' y.length c', .func (.func 89) #[] #[.pointer (some ⟨bx, 0, none⟩), .pointer (some ⟨bY, 0, none⟩), .pointer (some ⟨ba, 0, none⟩)], .func (.func 89) #[] #[.pointer (some ⟨bx, 0, none⟩), .pointer (some ⟨bY, 0, none⟩), .pointer (some ⟨ba, 0, none⟩)], .bool false, .int .i64 tn, .bool true, u 25, u 26, .func (.func 89) #[] #[.pointer (some ⟨bx, 0, none⟩), .pointer (some ⟨bY, 0, none⟩), .pointer (some ⟨ba, 0, none⟩)], q.1, u 29, u 30, u 31, u 32, u 33, u 34, u 35, u 36, u 37, u 38, u 39, u 40, u 41, u 42, u 43, u 44, u 45, u 46, u 47, u 48, u 49, u 50, u 51, u 52, u 53, u 54, u 55, u 56, u 57, u 58, u 59, u 60, u 61, u 62, u 63, u 64, u 65, u 66, u 67, u 68, u 69, u 70, u 71, u 72, u 73, u 74, u 75, u 76, u 77, u 78, u 79, u 80], defers := [] }) ?assign ?body ?done ?stop
    case assign =>
      intro l vq WW K hK
      gi_wp2
      exact hK
    case body =>
      rintro l pre ⟨v, q⟩ Z W5 ⟨hI5, hlt, hst⟩ ⟨B, N, hZB, hB, hO⟩ hsz
      obtain ⟨Aq, cq, hv, hcq, hrq⟩ := hO.row
      simp only at hv
      subst hv
      have hN5 := hO.1
      have Bel5 : Below W3.heap.size W3 W5 := hI.out.bel.trans (hI5.bel.mono z3)
      have hS5 := hO.soft rfl
      have hql := hrq.lenE
      have z5 := hI5.bel.size
      have hwr : Q (Row rEl 0 w1.heap.size W5 A2 want) := ⟨hr3.out.below Bel5 (by omega)⟩
      have c8 := box_cells (Bel5.box q8.out (by omega)) 0
      have c6 := box_cells (Bel5.box q6.out (by omega)) 0
      have f6 := box_free (Bel5.box q6.out (by omega)) 0
      have cn := box_cells hI5.hn 0
      by_cases h1 : pre.length < want.length
      · have e1 : decide (want.length ≤ pre.length) = false := decide_eq_false (by omega)
        obtain ⟨bw, ow, cs, rfl, _, hbw, ⟨Az, cz, ⟨hcz, hrz⟩, rfl⟩, _, hcell⟩ := hwr.out.at pre.length h1
        have x0 : W5.cell? ⟨bw, ow + pre.length, none⟩ = some (.slice Az want[pre.length].length cz) := by have := hcell 0 _ rfl; simpa [rEl] using this
        obtain ⟨z, hzz⟩ : ∃ z, z = want[pre.length] := ⟨_, rfl⟩
        rw [← hzz] at x0 hrz hcz
        have hAq : Q (∀ b, ablk Aq = some b → B ≤ b) := ⟨fun b hb => (hO.lt (g := b) (by rw [ownBlock_slice]; exact hb)).1⟩
        obtain ⟨r, hrr⟩ : ∃ r, r = exEs q z := ⟨_, rfl⟩
        have HE := Q.mk (Exact_ref q z Aq Az cq cz 0 W5.heap.size W5 (hrq.mono (Nat.zero_le _) hN5) (hrz.mono (Nat.zero_le _) (by omega)) (Nat.le_refl _))
        rw [← hrr] at HE
        replace hzz := Q.mk hzz
        replace hrr := Q.mk hrr
        replace hS5 := Q.mk hS5
        replace hI5 := Q.mk hI5
        replace Bel5 := Q.mk Bel5
        clear hcell hrz hcz hrq hO
        cases r with
        | false =>
          have hno : ¬ ((pre ++ [(Value.slice Aq q.length cq, q)]).map Prod.snd <+: mergesL [] x y) := fun hp => by
            have h2 := pre_at hp hlt
            have h3 : want[pre.length]? = some q := by rw [← h2]; exact congrArg (fun l => l[pre.length]?) hwant.out
            have h4 : z = q := by
              rw [List.getElem?_eq_getElem h1] at h3
              exact hzz.out.trans (Option.some.inj h3)
            have h5 := hrr.out
            rw [h4, exEs_self] at h5
            cases h5
          replace hno := Q.mk hno
          gi_wp2_with (first
            | (refine ⟨trivial, rfl, ?_⟩; gi_at_call 23; refine ((callsIn_wide.2 HE.out).inRound l).mono ?_; rintro e w6 ⟨rfl, hb6⟩; have d6 := box_cells (hb6.box (Bel5.out.box q6.out (by omega)) (by omega)) 0; have d7 := box_free (hb6.box (Bel5.out.box q6.out (by omega)) (by omega)) 0))
          exact ⟨((Kept.refl _ _).below hb6 (fun b hb => by rcases hb with ⟨_, h⟩ | ⟨_, h⟩ <;> omega)).setCell (by show ¬ ((_ ≤ w.heap.size + 1 ∧ w.heap.size + 1 < _) ∨ (_ ≤ w.heap.size + 1 ∧ w.heap.size + 1 < _)); omega) _, .inr ⟨rfl, hno.out⟩⟩
        | true =>
          clear hzz hrr
          gi_wp2_with (first
            | (refine ⟨trivial, rfl, ?_⟩; gi_at_call 23; refine ((callsIn_wide.2 HE.out).inRound l).mono ?_; rintro e w6 ⟨rfl, hb6⟩))
          have z6 := hb6.size
          have hK0 : Q (SK B q.length Aq w6 w6) := ⟨hS5.out.below hb6, Kept.refl _ _⟩
          clear c8 c6 f6 cn x0
          gi_loopw [13] (fun i wr => ∃ j : Nat, j ≤ q.length ∧ i = .int .i64 j ∧ Q (SK B q.length Aq w6 wr)) (fun i _ => q.length - (intOf i).toNat)
          case atStart => exact ⟨0, Nat.zero_le _, rfl, hK0⟩
          case round =>
            clear hK0
            obtain ⟨j, hj, rfl, hK⟩ := hrel
            by_cases hjl : j < q.length
            · obtain ⟨g, o, rfl, hg, hf, v0, v1, v2, v3, v4, v5, v6, v7, v8, v9, v10, v11, y0, y1, y2, y3, y4, y5, y6, y7, y8, y9, y10, y11⟩ := hK.out.soft.at hjl
              gi_wp2
              go_roundw
              case rel => exact ⟨j + 1, by omega, by go_num, ⟨by (repeat (with_reducible refine SK.set ?_ _ _)); with_reducible exact hK.out⟩⟩
              case measure => simp [intOf]; omega
            · obtain rfl : j = q.length := by omega
              have hI6 := (hI5.out.below hb6).kept hK.out.kept hAq.out (by omega)
              have BelR : Below W3.heap.size W3 wr := hI.out.bel.trans (hI6.bel.mono z3)
              have cn := box_cells hI6.hn 0
              have fn := box_free hI6.hn 0
              have cT5 := box_cells (hI6.bel.box hI.out.hT (box_lt hI.out.hT)) 0
              have c5 := box_cells (BelR.box q5.out (by omega)) 0
              have c7 := box_cells (BelR.box q7.out (by omega)) 0
              have lT := box_lt hI.out.hT
              have nT : bT ≠ W.heap.size := by omega
              have n5 : w.heap.size ≠ W.heap.size := by omega
              have n7 : w.heap.size + 1 + 1 ≠ W.heap.size := by omega
              have KX : Q (Kept (fun b => W2.heap.size ≤ b ∧ b < W3.heap.size ∨ W4.heap.size ≤ b ∧ b < W4.heap.size + 2 + 4) W5 (wr.setCell ⟨W.heap.size, 0, none⟩ (.int .i64 ((pre.length : Int) + 1)))) := by
                refine ⟨(((Kept.refl _ _).below hb6 (fun b hb => by rcases hb with ⟨_, h⟩ | ⟨_, h⟩ <;> omega)).trans ⟨hK.out.kept.low, fun b hb => hK.out.kept.same b fun e => ?_⟩).setCell (by show ¬ ((_ ≤ W.heap.size ∧ W.heap.size < _) ∨ (_ ≤ W.heap.size ∧ W.heap.size < _)); omega) _⟩
                have := hAq.out b e
                omega
              have HI2 := Q.mk hI6.succ
              replace BelR := Q.mk BelR
              have lp : pre.length < 9223372036854775807 := by omega
              have hst' := Q.mk hst
              clear hst hI6
              by_cases k1 : pre.length + 1 = 200
              · have e4 : ((pre.length : Int) + 1 == 200) = true := by rw [beq_iff_eq]; omega
                replace k1 := Q.mk k1
                gi_wp2
                exact ⟨KX.out, .inl ⟨rfl, by simpa using HI2.out, by have := k1.out; simp; omega, .inl (by have := k1.out; simp; omega)⟩⟩
              · have e4 : ((pre.length : Int) + 1 == 200) = false := by rw [beq_eq_false_iff_ne]; omega
                replace k1 := Q.mk k1
                by_cases k2 : tn = 0
                · have e5 : ((tn : Int) == 0) = true := by rw [k2]; rfl
                  replace k2 := Q.mk k2
                  by_cases k3 : (pre.length : Int) + 1 = stop
                  · have e6 : ((pre.length : Int) + 1 == stop) = true := by rw [beq_iff_eq]; exact k3
                    replace k3 := Q.mk k3
                    gi_wp2
                    exact ⟨KX.out, .inl ⟨rfl, by simpa using HI2.out, by simp; omega, .inr ⟨k2.out, by have := k3.out; simp; omega⟩⟩⟩
                  · have e6 : ((pre.length : Int) + 1 == stop) = false := by rw [beq_eq_false_iff_ne]; exact k3
                    replace k3 := Q.mk k3
                    gi_wp2
                    exact ⟨KX.out, by simpa using HI2.out, by have := k1.out; simp; omega, fun _ => .inr (by have := k3.out; simp; omega)⟩
                · have e5 : ((tn : Int) == 0) = false := by rw [beq_eq_false_iff_ne]; omega
                  replace k2 := Q.mk k2
                  gi_wp2
                  exact ⟨KX.out, by simpa using HI2.out, by have := k1.out; simp; omega, fun h0 => absurd h0 k2.out⟩
      · have e1 : decide (want.length ≤ pre.length) = true := decide_eq_true (by omega)
        have hno : ¬ ((pre ++ [(Value.slice Aq q.length cq, q)]).map Prod.snd <+: mergesL [] x y) := fun hp => by
          have h2 := hp.length_le
          rw [List.length_map, List.length_append, List.length_singleton] at h2
          have h3 : want.length = min 200 (mergesL [] x y).length := by rw [hwant.out, List.length_take]
          omega
        replace hno := Q.mk hno
        replace hS5 := Q.mk hS5
        replace hI5 := Q.mk hI5
        replace Bel5 := Q.mk Bel5
        clear hrq hO hwr
        gi_wp2_with (refine ⟨trivial, ?_⟩)
        exact ⟨(Kept.refl _ _).setCell (by show ¬ ((_ ≤ w.heap.size + 1 ∧ w.heap.size + 1 < _) ∨ (_ ≤ w.heap.size + 1 ∧ w.heap.size + 1 < _)); omega) _, .inr ⟨rfl, hno.out⟩⟩
    case done =>
      rintro xs Z W5 hS ⟨hI5, hlt, hst⟩ hK
      have hwl : want.length = xs.length := by rw [hwant.out, ← hS, List.length_take, List.length_map]; omega
      have e1 : ((xs.length : Int) != (want.length : Int)) = false := by simp [hwl]
      have Bel5 : Below W3.heap.size W3 W5 := hI.out.bel.trans (hI5.bel.mono z3)
      have cT5 := box_cells (hI5.bel.box hI.out.hT (box_lt hI.out.hT)) 0
      have c8 := box_cells (Bel5.box q8.out (by omega)) 0
      have cn := box_cells hI5.hn 0
      have z5 := hI5.bel.size
      have hmk : Marks W3.heap.size ({ target := .collected W4.heap.size, args := #[] } :: ds) W5 := hI.out.mks.cons (by omega) (by omega) hK (hI.out.mks.keep z5 fun b _ h2 _ => hI5.bel.block b h2)
      replace hmk := Q.mk hmk
      replace hI5 := Q.mk hI5
      replace hS := Q.mk hS
      replace Bel5 := Q.mk Bel5
      clear hst hwl hK
      go_wp2_with fail
      exact HKL.out _ _ (n - 1) (by omega) ⟨tn + 1, W5.heap.size, { target := .collected W4.heap.size, args := #[] } :: ds, ⟨by omega, ⟨TurnI.next Bel5.out hmk.out⟩⟩, rfl⟩
    case stop =>
      rintro k pre W5 hS (⟨rfl, hI5, hle, hor⟩ | ⟨rfl, hno⟩) hK
      · have hpl : pre.length ≤ (mergesL [] x y).length := by
          have h1 := hS.length_le
          rwa [List.length_map] at h1
        have hwl : want.length = min 200 (mergesL [] x y).length := by rw [hwant.out, List.length_take]
        have Bel5 : Below W3.heap.size W3 W5 := hI.out.bel.trans (hI5.bel.mono z3)
        have cT5 := box_cells (hI5.bel.box hI.out.hT (box_lt hI.out.hT)) 0
        have c8 := box_cells (Bel5.box q8.out (by omega)) 0
        have c5 := box_cells (Bel5.box q5.out (by omega)) 0
        have cn := box_cells hI5.hn 0
        have z5 := hI5.bel.size
        have hmk : Marks W3.heap.size ({ target := .collected W4.heap.size, args := #[] } :: ds) W5 := hI.out.mks.cons (by omega) (by omega) hK (hI.out.mks.keep z5 fun b _ h2 _ => hI5.bel.block b h2)
        replace hmk := Q.mk hmk
        replace hI5 := Q.mk hI5
        replace hS := Q.mk hS
        replace Bel5 := Q.mk Bel5
        clear hK
        by_cases hw : pre.length = want.length
        · have e1 : ((pre.length : Int) != (want.length : Int)) = false := by simp [hw]
          clear hor hw hwl
          refine wpIn_wide.2 ?_
          go_wp2_with fail
          exact HKL.out _ _ (n - 1) (by omega) ⟨tn + 1, W5.heap.size, { target := .collected W4.heap.size, args := #[] } :: ds, ⟨by omega, ⟨TurnI.next Bel5.out hmk.out⟩⟩, rfl⟩
        · have e1 : ((pre.length : Int) != (want.length : Int)) = true := by simp; omega
          obtain ⟨h0, hs⟩ : tn = 0 ∧ (pre.length : Int) = stop := by
            rcases hor with h | h
            · omega
            · exact h
          have e2 : ((tn : Int) == 1) = false := by rw [h0]; rfl
          have e3 : ((pre.length : Int) != stop) = false := by simp [hs]
          clear hor hw hwl h0 hs
          refine wpIn_wide.2 ?_
          go_wp2_with fail
          exact HKL.out _ _ (n - 1) (by omega) ⟨tn + 1, W5.heap.size, { target := .collected W4.heap.size, args := #[] } :: ds, ⟨by omega, ⟨TurnI.next Bel5.out hmk.out⟩⟩, rfl⟩
      · exact absurd hS hno
  · have t1 : decide ((tn : Int) < 2) = false := decide_eq_false (by omega)
    have c6 := box_cells (hI.out.bel.box q6.out (by omega)) 0
    have f6 := box_free (hI.out.bel.box q6.out (by omega)) 0
    have z3 := hI.out.bel.size
    go_wp2_with (go_at_call 27; refine (alive_any _).mono ?_; rintro e w5 ⟨rfl, hb5⟩; have r6 := hb5.box (hI.out.bel.box q6.out (by omega)) (by omega); have d6 := box_cells r6 0; have d7 := box_free r6 0; replace r6 := Q.mk r6)
    have hmk : Marks W3.heap.size ds (w5.setCell ⟨w.heap.size + 1, 0, none⟩ (.bool true)) := hI.out.mks.keep (by rw [size_set]; exact hb5.size) fun b h1 h2 _ => (Below.heap_setCell w5 _ _ b (by show b ≠ w.heap.size + 1; omega)).trans (hb5.block b h2)
    have hbf : Below w.heap.size w (w5.setCell ⟨w.heap.size + 1, 0, none⟩ (.bool true)) := ((hw3.out.trans (hI.out.bel.mono (by omega))).trans (hb5.mono (by omega))).setCell (by show w.heap.size ≤ w.heap.size + 1; omega) _
    have r7 := box_set r6.out 0 (.bool true)
    obtain ⟨Ds, rfl, hnd, hds⟩ := hmk
    refine leaves_marks (M := W3.heap.size) Ds _ hnd hds ?_
    intro W' hz' hb'
    have r8 := (hb'.block (w.heap.size + 1) (by omega)).trans r7
    have c9 := box_cells r8 0
    refine ⟨.bool true, ?_, rfl, hbf.trans (hb'.mono (by omega))⟩
    simp [results, Try.f6, go_sem, c9]
end Go.Proofs.Ytifakbipdmceiaa
