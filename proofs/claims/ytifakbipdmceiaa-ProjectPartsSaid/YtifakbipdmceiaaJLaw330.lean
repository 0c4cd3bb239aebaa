import Derived.Test.YtifakbipdmceiaaJLaw323
set_option linter.unusedVariables false
set_option linter.unusedSimpArgs false
namespace Go.Proofs.Ytifakbipdmceiaa
open Go.RowKit

/-! ### rows whose values' items may be written: each items' row is a block of its own, and none of it is shared by a string -/
def Thaw (B N : Nat) (w : World) (A : Option Addr) (n : Nat) : Prop :=
  n = 0 ∨ ∃ b cur t, A = some ⟨b, 0, none⟩ ∧ B ≤ b ∧ b < N ∧ w.heap[b]? = some (.cells cur t (0, 0)) ∧ n * 5 ≤ cur.size
section
variable {B N : Nat} {w : World} {A : Option Addr} {n : Nat}
theorem Thaw.loc (h : Thaw B N w A n) {w' : World} (hs : Same B N w w') : Thaw B N w' A n := by
  rcases h with h | ⟨b, cur, t, h1, h2, h3, h4, h5⟩
  · exact .inl h
  · exact .inr ⟨b, cur, t, h1, h2, h3, (hs b h2 h3).trans h4, h5⟩
theorem Thaw.mono (h : Thaw B N w A n) {B' N' : Nat} (hB : B' ≤ B) (hN : N ≤ N') : Thaw B' N' w A n := by
  rcases h with h | ⟨b, cur, t, h1, h2, h3, h4, h5⟩
  · exact .inl h
  · exact .inr ⟨b, cur, t, h1, by omega, by omega, h4, h5⟩
theorem Thaw.alloc (h : Thaw B N w A n) (hN : N ≤ w.heap.size) (o : Obj) : Thaw B N (w.alloc o) A n := h.loc (Same.alloc B w o hN)
theorem Thaw.set (h : Thaw B N w A n) {a : Addr} (ha : a.block < B ∨ N ≤ a.block) (v : Value) : Thaw B N (w.setCell a v) A n := h.loc (Same.set B N w ha v)
end
def tEl : El Ev where
  sz := 12
  by_ := 144
  R := fun B N w e cs => ∃ A c, EOk B N w e A c ∧ cs = [.int .i64 e.k, .string e.p, .string e.o, .string e.q, .int .i64 e.v.kind, .int .i64 e.v.int, .int .i64 e.v.im, .string e.v.text, .slice A e.v.items.length c, .int .i64 e.a, .int .i64 e.b, .int .i64 e.c] ∧ Thaw B N w A e.v.items.length
  pos := by decide
  len := fun B N w e cs h => by obtain ⟨A, c, h1, h2, _⟩ := h; exact eEl.len B N w e cs ⟨A, c, h1, h2⟩
  one := fun B N w e cs h => by obtain ⟨A, c, h1, h2, _⟩ := h; exact eEl.one B N w e cs ⟨A, c, h1, h2⟩
  loc := fun B N w e cs h w' hs => by obtain ⟨A, c, h1, h2, h3⟩ := h; exact ⟨A, c, h1.loc hs, h2, h3.loc hs⟩
  mono := fun B N w e cs h B' N' hB hN => by obtain ⟨A, c, h1, h2, h3⟩ := h; exact ⟨A, c, h1.mono hB hN, h2, h3.mono hB hN⟩
theorem Own.eEl_of {e : TypeId} {B N : Nat} {w : World} {v : Value} {xs : List Ev} (h : Own tEl e B N w v xs) : Own eEl e B N w v xs := by
  obtain ⟨h0, h1, cs, S, h2, h3, h4, h5⟩ := h
  refine ⟨h0, h1, cs, S, h2, h3, h4, fun w' hw' => ⟨(h5 w' hw').1, fun j x hj => ?_⟩⟩
  obtain ⟨A, c, k1, k2, _⟩ := (h5 w' hw').2 j x hj
  exact ⟨A, c, k1, k2⟩
theorem copied_t (x : Val) (A : Option Addr) (c B0 N0 : Nat) (w : World) (hx : VOk B0 N0 w x A c) (hN : N0 ≤ w.heap.size) :
    Calls Try.prog 109 #[.agg #[.int .i64 x.kind, .int .i64 x.int, .int .i64 x.im, .string x.text, .slice A x.items.length c]] w fun e w' => ∃ A' c', e = .returned (.agg #[.int .i64 x.kind, .int .i64 x.int, .int .i64 x.im, .string x.text, .slice A' x.items.length c']) ∧ VOk w.heap.size w'.heap.size w' x A' c' ∧ Thaw w.heap.size w'.heap.size w' A' x.items.length ∧ Below w.heap.size w w' := by
  refine (copied_any _ x.kind x.int x.im x.text x.items A c B0 N0 w (Nat.le_refl _) hx.row hN hx.cap).mono ?_
  rintro e w2 ⟨v4, rfl, ho, hb⟩
  obtain ⟨A4, c4, rfl, hc4, hr4⟩ := ho.row
  refine ⟨A4, c4, rfl, ⟨hr4, hx.txt, hc4⟩, ?_, hb⟩
  obtain ⟨_, _, cs, S, ⟨_, h⟩, h3, _⟩ := ho
  rcases h with ⟨h, h'⟩ | ⟨g, cap, cur, hv, hg, hh, hn, _, hcs, _⟩
  · exact .inl h'
  · obtain ⟨rfl, _, rfl⟩ : A4 = some ⟨g, 0, none⟩ ∧ True ∧ c4 = cap := by simpa using hv
    exact .inr ⟨g, cur, _, rfl, hg, (h3 g rfl).1, hh, by rw [hcs]; exact Nat.mul_le_mul_right _ hn⟩

set_option maxHeartbeats 1000000 in
set_option maxRecDepth 100000 in
theorem those_t (l : List Ev) (A : Option Addr) (c B0 N0 : Nat) (w : World) (v1 v2 : Value) (P : Nat → Bool) (hr0 : Row eEl B0 N0 w A l) (hN : N0 ≤ w.heap.size) (hc : l.length ≤ c)
    (H0 : ∀ (j : Nat) (w1 : World), j < l.length → Below w.heap.size w w1 → Calls Try.prog 68 #[.int .i64 j, v1, v2] w1 fun e w2 => e = .returned (.bool (P j)) ∧ Below w1.heap.size w1 w2) :
    Calls Try.prog 65 #[.slice A l.length c, .func (.func 68) #[] #[v1, v2]] w fun e w' => ∃ v, e = .returned v ∧ Own tEl 37 w.heap.size w'.heap.size w' v (keepP P l) ∧ Below w.heap.size w w' := by
  have hlen := hr0.lenE
  have hr := Q.mk hr0
  have H := Q.mk H0
  clear hr0 H0
  go_enter Try.func65, Try.ntmps65
  go_wp2_with fail
  go_loopw [5, 10] (fun u i wr => ∃ j : Nat, j ≤ l.length ∧ i = .int .i64 j ∧ Q (Own tEl 37 w.heap.size wr.heap.size wr u (selP P l j)) ∧ Below w.heap.size w wr)
    (fun _ i _ => l.length - (intOf i).toNat)
  case atStart => exact ⟨0, Nat.zero_le _, rfl, ⟨(Own.nil _ _ _ _)⟩, Below.refl _ _⟩
  case round =>
    obtain ⟨j, hj, rfl, hO, hB⟩ := hrel
    have hz := hB.size
    by_cases hlt : j < l.length
    · obtain ⟨b, o, e, Ae, ce, rfl, hbN, he, hEOk, x0, x1, x2, x3, x4, x5, x6, x7, x8, x9, x10, x11⟩ := (hr.out.below hB hN).atE j hlt
      have he1 : l[j]? = some e := by simp [hlt, he]
      have hsl := selP_len P l j
      replace hEOk := Q.mk hEOk
      replace he := Q.mk he
      cases hp : P j
      · have HS : Q (selP P l (j + 1) = selP P l j) := ⟨by rw [selP]; simp [he1, hp]⟩
        replace hp := Q.mk hp
        replace he1 := Q.mk he1
        go_wp2_with (go_at_call 68; refine (H.out j _ hlt (hB.alloc hz _)).mono ?_; rw [hp.out]; rintro e2 w2 ⟨rfl, hb2⟩)
        have hz2 := hb2.size
        simp only [World.size_alloc] at hz2
        go_roundw
        case rel => exact ⟨j + 1, by omega, by go_num, ⟨by rw [HS.out]; exact ((hO.out.alloc _).below hb2 (by simp)).widen (by omega) (Nat.le_refl _)⟩, (hB.alloc hz _).trans (hb2.mono (by simp; omega))⟩
        case measure => simp [intOf]; omega
      · have HS : Q (selP P l (j + 1) = selP P l j ++ [e]) := ⟨by rw [selP]; simp [he1, hp]⟩
        replace hp := Q.mk hp
        replace he1 := Q.mk he1
        go_wp2_with (first
          | (go_at_call 68; refine (H.out j _ hlt (hB.alloc hz _)).mono ?_; rw [hp.out]; rintro e2 w2 ⟨rfl, hb2⟩; obtain ⟨hcc, hff, hsz2⟩ := bcell hb2; simp only [World.size_alloc] at hcc hff hsz2; have l1 : wr.heap.size < wr.heap.size + 1 := Nat.lt_succ_self _)
          | (go_at_call 109; refine (copied_t e.v Ae ce B0 N0 _ ((hEOk.out.v.alloc (by omega) _).below hb2 (by simp; omega)) (by omega)).mono ?_; rintro e2 w3 ⟨A4, c4, rfl, hv4, hT4, hb3⟩; obtain ⟨hcc3, hff3, hsz3⟩ := bcell hb3; have l2 : wr.heap.size < w2.heap.size := (by omega); replace hv4 := Q.mk hv4; replace hT4 := Q.mk hT4)
          | (at_builtin; (refine wpList_append1 _ rfl tEl (.tmp 22) (.tmp 24) 22 37 rfl Try.underlying22 infoE rfl (B := w.heap.size) (N := wr.heap.size) (B' := w2.heap.size) (N' := w3.heap.size) (y := e) (H := w3.heap.size) w.heap.size (by rfl) (by rfl) (heap_alloc_at _ _ (by simp only [size_set])) (((((((((hO.out.alloc _).below hb2 (by simp <;> omega)).below hb3 (by omega)).setCell (.inr (Nat.le_refl _)) _).setCell (.inr (Nat.le_refl _)) _).setCell (.inr (Nat.le_refl _)) _).setCell (.inr (Nat.le_refl _)) _).setCell (.inr (Nat.le_refl _)) _).alloc _) ⟨A4, c4, ⟨((((((hv4.out.set (.inl l2) _).set (.inl l2) _).set (.inl l2) _).set (.inl l2) _).set (.inl l2) _).alloc (by simp only [size_set] <;> omega) _), hEOk.out.p, hEOk.out.o, hEOk.out.q⟩, rfl, ((((((hT4.out.set (.inl l2) _).set (.inl l2) _).set (.inl l2) _).set (.inl l2) _).set (.inl l2) _).alloc (by simp only [size_set] <;> omega) _)⟩ (Or.inl (by omega)) (by simp only [World.size_alloc, size_set] <;> omega) (Nat.le_refl _) (by omega) (by simp only [World.size_alloc, size_set] <;> omega) (by decide) (by simp [tEl] <;> omega) ?_); intro g1 c1 w4 hO4 hg4 hat4))
        have BW : Below w.heap.size w w4 := hO.out.below_grown (((((((((hB.alloc hz _).trans (hb2.mono (by simp; omega))).trans (hb3.mono (by omega))).setCell hz _).setCell hz _).setCell hz _).setCell hz _).setCell hz _).alloc (by simp only [size_set]; omega) _) hg4 (Nat.le_refl _) (by simp only [World.size_alloc, size_set]; omega)
        clear hg4 hat4
        go_roundw
        case rel => exact ⟨j + 1, by omega, by go_num, ⟨by rw [HS.out]; exact hO4⟩, BW⟩
        case measure => simp [intOf]; omega
    · go_wp2
      go_ret
      obtain rfl : j = l.length := by omega
      exact ⟨_, rfl, hO.out, hB⟩

set_option maxHeartbeats 1000000 in
set_option maxRecDepth 100000 in
theorem whole_t (l : List Ev) (A : Option Addr) (c B0 N0 : Nat) (w : World) (hr0 : Row eEl B0 N0 w A l) (hN : N0 ≤ w.heap.size) (hc : l.length ≤ c) :
    Calls Try.prog 17 #[.slice A l.length c] w fun e w' => ∃ v, e = .returned v ∧ Own tEl 37 w.heap.size w'.heap.size w' v (wholeP l) ∧ Below w.heap.size w w' := by
  have hr := Q.mk hr0
  clear hr0
  obtain ⟨W0, hW0, b0, BB, Z⟩ := boxes1 w (.cells #[.slice A l.length c] 22)
  have p0 := box_cells b0.out 0
  have HC : Q (Calls Try.prog 64 #[.slice A l.length c] W0 fun e w' => ∃ g, e = .returned (.slice (some ⟨g, 0, none⟩) l.length l.length) ∧ W0.heap.size ≤ g ∧ w'.heap[g]? = some (.cells (ints (callsP l)) 3 (0, 0)) ∧ Below W0.heap.size W0 w') :=
    ⟨calls_any l A c B0 N0 W0 (hr.out.below BB hN) (by omega) hc⟩
  have H0 : Q (∀ (g : Nat) (w2 w3 w1 : World) (j : Nat), w2.heap[g]? = some (.cells (ints (callsP l)) 3 (0, 0)) → Below W0.heap.size W0 w2 → w3 = w2.alloc (.cells #[.slice (some ⟨g, 0, none⟩) l.length l.length] 82) → j < l.length → Below w3.heap.size w3 w1 →
      Calls Try.prog 68 #[.int .i64 j, .pointer (some ⟨w2.heap.size, 0, none⟩), .pointer (some ⟨w.heap.size, 0, none⟩)] w1 fun e w4 => e = .returned (.bool (wholeB l (callsP l) j)) ∧ Below w1.heap.size w1 w4) := by
    refine ⟨fun g w2 w3 w1 j hg hb2 h3 hj hb1 => ?_⟩
    have hz2 := hb2.size
    have hz1 := hb1.size
    have hgl := box_lt hg
    subst h3
    simp only [World.size_alloc] at hz1
    have c1 := hb1.box (box_alloc (hb2.box b0.out (by omega)) _) (by simp; omega)
    have c3 := hb1.box (heap_alloc_new w2 (.cells #[.slice (some ⟨g, 0, none⟩) l.length l.length] 82)) (by simp)
    have c4 := hb1.box (box_alloc hg _) (by simp; omega)
    exact Whole1_any l (callsP l) A c B0 N0 j _ _ g l.length w1 ((((hr.out.below BB hN).below hb2 (by omega)).alloc (by omega) _).below hb1 (by simp; omega)) (by omega) hj (callsP_len l) hj
      (box_cells c1 0) (box_cells c3 0) ⟨c4⟩
  go_enter Try.func17, Try.ntmps17
  go_wp2_with (first
    | (go_at_call 64; rw [← hW0]; clear hW0; refine HC.out.mono ?_; rintro e w2 ⟨g, rfl, hgl, hg, hb2⟩; replace hg := Q.mk hg; have hsz2 := hb2.size; have p2 := box_cells (hb2.box b0.out (by omega)) 0; have l2 : w.heap.size < w2.heap.size := (by omega))
    | (go_at_call 65; refine (those_t l A c B0 N0 _ _ _ (wholeB l (callsP l)) (((hr.out.below BB hN).below hb2 (by omega)).alloc (by omega) _) (by simp; omega) hc (fun j w1 hj hb1 => H0.out g w2 _ w1 j hg.out hb2 rfl hj hb1)).mono ?_; rintro e w4 ⟨v, rfl, ho, hb⟩; replace ho := Q.mk ho))
  go_ret
  exact ⟨_, rfl, ho.out.low (by simp; omega), ((BB.trans (hb2.mono (by omega))).alloc (by omega) _).trans (hb.mono (by simp; omega))⟩
end Go.Proofs.Ytifakbipdmceiaa
