import Derived.Test.YtifakbipdmceiaaOutK
set_option linter.unusedVariables false
set_option linter.unusedSimpArgs false
namespace Go.Proofs.Ytifakbipdmceiaa
open Go.RowKit Go.Proofs.YtifakbipdmceiaaW.PrintLast

theorem OutV.push {N0 g : Nat} {w W w4 : World} {A A1 : Option Addr} {c c1 : Nat} {rows : List (List Ev)} {p : List Ev} (h : OutV N0 g w A c rows) (hb : Below w.heap.size w W) (hc : rows.length + 1 ≤ c1)
    (hO : OwnR rEl 22 N0 (g + 1) w4.heap.size w4 (.slice A1 (rows.length + 1) c1) (rows ++ [p])) (hg : W.grownBy w4 (ablk A)) (hat : ∀ b, ablk A1 = some b → ablk A = some b ∨ b = W.heap.size) :
    OutV N0 g (w4.setCell ⟨g, 0, none⟩ (.slice A1 (rows.length + 1) c1)) A1 c1 (rows ++ [p]) ∧ Chg g A A1 w (w4.setCell ⟨g, 0, none⟩ (.slice A1 (rows.length + 1) c1)) := by
  have hz := hb.size
  have hz4 := hg.size
  have hl := h.lt
  have hlow := h.low
  have hA : ∀ b, ablk A = some b → g + 1 ≤ b := fun b hb' => (h.own.lt (g := b) (by rw [ownBlock_slice]; exact hb')).1
  have hg4 : w4.heap[g]? = some (.cells #[.slice A rows.length c] 46 (0, 0)) := (hg.block g (by omega) (fun e => by have := hA g e.symm; omega)).trans (hb.box h.at_ hl)
  have e1 : (rows ++ [p]).length = rows.length + 1 := by simp
  refine ⟨⟨hlow, by rw [size_set]; omega, by rw [e1]; exact hc, ?_, ?_⟩, ⟨?_, fun b h1 h2 h3 => ?_, fun b h1 => ?_⟩⟩
  · rw [e1]; exact box_set hg4 0 _
  · rw [e1, size_set]; exact hO.setCell (.inl ⟨hlow, Nat.lt_succ_self _⟩) _
  · have h9 : Below g w w4 := (hb.mono (by omega)).grown hg (by omega) (fun b e => by have := hA b e; omega)
    exact h9.setCell (p := ⟨g, 0, none⟩) (Nat.le_refl _) _
  · exact ((Below.heap_setCell w4 _ _ b (fun e => h2 e)).trans (hg.block b (by omega) (fun e => h3 e.symm))).trans (hb.block b h1)
  · rcases hat b h1 with h2 | h2
    · exact .inl h2
    · exact .inr (by omega)
theorem take_more {α : Type} (r s t : List α) (n : Nat) : ((r ++ s).take n ++ t).take n = (r ++ (s ++ t)).take n := by
  rw [← List.append_assoc]
  generalize r ++ s = q
  rcases Nat.le_total n q.length with h | h
  · have h1 : n ≤ (q.take n).length := by simp; omega
    rw [List.take_append_of_le_length h1, List.take_append_of_le_length h, List.take_take, Nat.min_self]
  · rw [List.take_of_length_le h]
theorem OwnR.rowT {α : Type} {E : El α} {e : TypeId} {N0 M N : Nat} {w w' : World} {A : Option Addr} {n c : Nat} {xs : List α} (h : OwnR E e N0 M N w (.slice A n c) xs) (hs : ∀ b, b < N0 ∨ (M ≤ b ∧ b < N) → w'.heap[b]? = w.heap[b]?) : Row E 0 N w' A xs := by
  obtain ⟨hm, h0, h1, cs, S, h2, h3, h4, h5⟩ := h
  have hb : ∀ g, (Value.slice A n c).ownBlock = some g → w'.heap[g]? = w.heap[g]? := fun g hg => hs g (.inr ⟨(h2.lt g hg).1, (h3 g hg).1⟩)
  have hw := ownsRow_block h2 hb
  have hc := h5 w' fun b hb => hs b (h4 b hb)
  refine ⟨h1, fun hne => ?_⟩
  rcases hw.2 with ⟨_, h5⟩ | ⟨g, cap, cur, he, _, hg, _⟩
  · exact absurd (List.eq_nil_of_length_eq_zero h5) hne
  · have hA : A = some ⟨g, 0, none⟩ := by simpa using congrArg (fun v => match v with | .slice a _ _ => a | _ => none) he
    subst hA
    refine ⟨g, 0, rfl, Nat.zero_le _, (h3 g rfl).1, fun j x hj => ?_⟩
    refine ⟨_, hc.2 j x hj, fun i u hu => ?_⟩
    rw [List.getElem?_take] at hu
    split at hu
    · rw [List.getElem?_drop] at hu
      have h9 := hw.cells (g := g) rfl (j * E.sz + i) u hu
      have ha : (⟨g, 0, none⟩ : Addr).add (j * E.sz + i) = ⟨g, 0 + j * E.sz + i, none⟩ := by unfold Addr.add; split <;> simp_all
      rw [ha] at h9
      exact h9
    · cases hu
theorem PRow.atE {N0 : Nat} {w : World} {A : Option Addr} {c : Nat} {p : List Ev} (h : PRow N0 w A c p) (j : Nat) (hj : j < p.length) :
    ∃ (b o : Nat) (e : Ev) (A' : Option Addr) (c' : Nat), A = some ⟨b, o, none⟩ ∧ b < w.heap.size ∧ p[j] = e ∧ EOk 0 N0 w e A' c' ∧ w.cell? ⟨b, o + j * 12, none⟩ = some (.int .i64 e.k) ∧ w.cell? ⟨b, o + j * 12 + 1, none⟩ = some (.string e.p) ∧ w.cell? ⟨b, o + j * 12 + 2, none⟩ = some (.string e.o) ∧ w.cell? ⟨b, o + j * 12 + 3, none⟩ = some (.string e.q) ∧ w.cell? ⟨b, o + j * 12 + 4, none⟩ = some (.int .i64 e.v.kind) ∧ w.cell? ⟨b, o + j * 12 + 5, none⟩ = some (.int .i64 e.v.int) ∧ w.cell? ⟨b, o + j * 12 + 6, none⟩ = some (.int .i64 e.v.im) ∧ w.cell? ⟨b, o + j * 12 + 7, none⟩ = some (.string e.v.text) ∧ w.cell? ⟨b, o + j * 12 + 8, none⟩ = some (.slice A' e.v.items.length c') ∧ w.cell? ⟨b, o + j * 12 + 9, none⟩ = some (.int .i64 e.a) ∧ w.cell? ⟨b, o + j * 12 + 10, none⟩ = some (.int .i64 e.b) ∧ w.cell? ⟨b, o + j * 12 + 11, none⟩ = some (.int .i64 e.c) := by
  obtain ⟨cs, h3, h4⟩ := h
  rcases h3.2 with ⟨_, h5⟩ | ⟨g, cap, cur, he, _, hg, _⟩
  · omega
  · obtain rfl : A = some ⟨g, 0, none⟩ := by simpa using congrArg (fun v => match v with | .slice a _ _ => a | _ => none) he
    obtain ⟨A', c', hR, h6⟩ := h4.2 j p[j] (by simp [hj])
    refine ⟨g, 0, p[j], A', c', rfl, box_lt hg, rfl, hR, ?_⟩
    refine cells12 ?_
    intro i u hu
    have hi : i < 12 := by
      have := List.getElem?_eq_some_iff.1 hu
      obtain ⟨h7, _⟩ := this
      simpa using h7
    have h8 : ((cs.drop (j * 12)).take 12)[i]? = some u := by
      have := congrArg (fun l => l[i]?) h6
      exact this.trans hu
    rw [List.getElem?_take, if_pos hi, List.getElem?_drop] at h8
    have h9 := h3.cells (g := g) rfl (j * 12 + i) u h8
    have ha : (⟨g, 0, none⟩ : Addr).add (j * 12 + i) = ⟨g, 0 + j * 12 + i, none⟩ := by unfold Addr.add; split <;> simp_all
    rw [ha] at h9
    exact h9
def unitE : Ending := .returned (.tuple #[])
def MIH (f : Nat) : Prop := ∀ (x y p : List Ev) (Ax Ay Ap A : Option Addr) (cx cy cp c B0 N0 g most : Nat) (rows : List (List Ev)) (w : World), x.length + y.length ≤ f → Row eEl B0 N0 w Ax x → Row eEl B0 N0 w Ay y → PRow N0 w Ap cp p → (∀ b, ablk Ap = some b → b ≠ g ∧ ablk A ≠ some b) →
    N0 ≤ w.heap.size → x.length ≤ cx → y.length ≤ cy → p.length ≤ cp → (p.length + x.length + y.length) * 144 ≤ 140737488355328 → OutV N0 g w A c rows → rows.length ≤ most → most ≤ 200 →
    Calls Try.prog 87 #[.slice Ax x.length cx, .slice Ay y.length cy, .slice Ap p.length cp, .int .i64 most, .pointer (some ⟨g, 0, none⟩)] w fun e w' => e = unitE ∧ ∃ A' c', OutV N0 g w' A' c' ((rows ++ mergesL p x y).take most) ∧ Chg g A A' w w'
set_option maxHeartbeats 4000000 in
set_option maxRecDepth 100000 in
/-- enough rows -/
theorem mrg_full (x y p : List Ev) (Ax Ay Ap A : Option Addr) (cx cy cp c N0 g most : Nat) (rows : List (List Ev)) (w : World) (hO0 : OutV N0 g w A c rows) (hm : rows.length = most) (hm2 : most ≤ 200) :
    Calls Try.prog 87 #[.slice Ax x.length cx, .slice Ay y.length cy, .slice Ap p.length cp, .int .i64 most, .pointer (some ⟨g, 0, none⟩)] w fun e w' => e = unitE ∧ ∃ A' c', OutV N0 g w' A' c' ((rows ++ mergesL p x y).take most) ∧ Chg g A A' w w' := by
  have hO := Q.mk hO0
  have c0 := box_cells hO0.at_ 0
  have t1 : decide (most ≤ rows.length) = true := by simp; omega
  have e1 : Q ((rows ++ mergesL p x y).take most = rows) := ⟨by rw [← hm, List.take_append_of_le_length (Nat.le_refl _), List.take_length]⟩
  clear hO0 hm
  go_enter Try.func87, Try.ntmps87
  go_wp2_with fail
  refine bodyPost_ret (results_none rfl _ _ _) rfl ?_
  refine ⟨rfl, A, c, ?_, Chg.refl _ _ _⟩
  rw [e1.out]
  exact hO.out
set_option maxHeartbeats 4000000 in
set_option maxRecDepth 100000 in
/-- nothing is left: a row more -/
theorem mrg_leaf (p : List Ev) (Ax Ay Ap A : Option Addr) (cx cy cp c N0 g most : Nat) (rows : List (List Ev)) (w : World) (hp0 : PRow N0 w Ap cp p) (hN : N0 ≤ w.heap.size) (hl : p.length * 144 ≤ 140737488355328) (hO0 : OutV N0 g w A c rows) (hm : rows.length < most) (hm2 : most ≤ 200) :
    Calls Try.prog 87 #[.slice Ax 0 cx, .slice Ay 0 cy, .slice Ap p.length cp, .int .i64 most, .pointer (some ⟨g, 0, none⟩)] w fun e w' => e = unitE ∧ ∃ A' c', OutV N0 g w' A' c' ((rows ++ [p]).take most) ∧ Chg g A A' w w' := by
  have hO := Q.mk hO0
  have hp := Q.mk hp0
  have hlt := hO0.lt
  have hlow := hO0.low
  have c0 := box_cells hO0.at_ 0
  have t1 : decide (most ≤ rows.length) = false := by simp; omega
  have e1 : Q ((rows ++ [p]).take most = rows ++ [p]) := ⟨List.take_of_length_le (by simp; omega)⟩
  have hrl : (rows.length + 1) * 24 ≤ 140737488355328 := by omega
  clear hO0 hp0
  go_enter Try.func87, Try.ntmps87
  go_wp2_with fail
  go_loopw [10, 11] (fun u i wr => ∃ j : Nat, j ≤ p.length ∧ i = .int .i64 j ∧ Q (OwnR eEl 37 N0 w.heap.size wr.heap.size wr u (p.take j)) ∧ Below w.heap.size w wr)
    (fun _ i _ => p.length - (intOf i).toNat)
  case atStart => exact ⟨0, Nat.zero_le _, rfl, ⟨OwnR.nil _ _ _ _ _ hN⟩, Below.refl _ _⟩
  case round =>
    obtain ⟨j, hj, rfl, hU, hB⟩ := hrel
    have hz := hB.size
    by_cases hlt : j < p.length
    · obtain ⟨b, o, e, Ae, ce, rfl, hbN, he, hEOk, x0, x1, x2, x3, x4, x5, x6, x7, x8, x9, x10, x11⟩ := (hp.out.below hN hB).atE j hlt
      have HS : Q (p.take (j + 1) = p.take j ++ [e]) := ⟨by rw [List.take_succ_eq_append_getElem hlt, he]⟩
      have hsl : (p.take j).length ≤ j := by simp; omega
      have hse : Q ((p.take j).length = j) := ⟨by simp; omega⟩
      replace hEOk := Q.mk hEOk
      clear he
      go_wp2_with (first
        | (go_at_call 74; refine (event_ref e Ae ce 0 N0 _ hEOk.out (by omega)).mono ?_; rintro e2 w3 ⟨A4, c4, rfl, hv4, hb3⟩; replace hv4 := Q.mk hv4; have z3 := hb3.size)
        | (at_builtin; refine wpList_append1D _ rfl eEl (.tmp 33) (.tmp 39) 22 37 rfl Try.underlying22 infoE rfl (B1 := 0) (B' := wr.heap.size) (N' := w3.heap.size) (y := e) (H := w3.heap.size) (by rfl) (by rfl) (heap_alloc_at _ _ rfl) ((hU.out.below hb3 (Nat.le_refl _) (by omega)).alloc (by omega) _) (hv4.out.elim (fun h => .inl ⟨A4, c4, h.alloc (by omega) _, rfl⟩) (fun h => .inr ⟨A4, c4, h.alloc (Nat.le_refl _) _, rfl⟩)) ⟨Nat.le_refl _, by omega⟩ (by simp) (by simp; omega) (by decide) (by simp only [eEl]; omega) ?_; intro g1 c1 w4 hO4 hg4 hat4))
      have BW : Below w.heap.size w w4 := hU.out.below_grown ((hB.trans (hb3.mono (by omega))).alloc (by omega) _) hg4 (Nat.le_refl _) (by simp; omega)
      clear hg4 hat4
      go_roundw
      case rel => exact ⟨j + 1, by omega, by go_num, ⟨by rw [HS.out]; have h := hO4; rw [hse.out] at h; exact h⟩, BW⟩
      case measure => simp [intOf] <;> omega
    · obtain rfl : j = p.length := by omega
      have hU' : Q (OwnR eEl 37 N0 w.heap.size wr.heap.size wr u10 p) := ⟨by have h1 := hU.out; rwa [List.take_length] at h1⟩
      clear hU
      obtain ⟨Au, cu, rfl, hcu, hru⟩ := hU'.out.row
      have hO2 := hO.out.below hB
      have d0 := box_cells hO2.at_ 0
      have hsz := hO2.lt
      have hOw := Q.mk (hO.out.own.below hB (Nat.le_refl _) (by omega))
      replace hO2 := Q.mk hO2
      go_wp2_with (at_builtin; go_loud (refine wpList_plain rfl fun K hK => ?_; refine wp_append1G _ rEl (.tmp 44) (.tmp 46) 46 22 rfl Try.underlying46 infoR rfl (N0 := N0) (M := g + 1) (N := w.heap.size) (H := wr.heap.size) (T := fun b => b < N0 ∨ (w.heap.size ≤ b ∧ b < wr.heap.size)) (y := p) (by rfl) (by rfl) (heap_alloc_new _ _) (hOw.out.alloc (by omega) _) (fun b hb => by simp only [World.size_alloc]; omega) (fun w' hs N' hN' => ⟨Au, cu, ⟨hcu, ((hU'.out.alloc hz _).rowT hs).mono (Nat.le_refl _) (by simp only [World.size_alloc] at hN'; omega)⟩, rfl⟩) (by simp only [World.size_alloc]; omega) (by decide) hrl ?_; intro g1 c1 w4 hc4 hO4 hg4 hat4; have q1 := hOw.out.block_far hg4 (box_alloc hO2.out.at_ _) (.inl (Nat.lt_succ_self _)); have d1 := box_cells q1 0; have d2 := box_free q1 0; rw [ownBlock_slice] at hg4 hat4; replace q1 := Q.mk q1; replace hc4 := Q.mk hc4; replace hO4 := Q.mk hO4; replace hg4 := Q.mk hg4; replace hat4 := Q.mk hat4; refine hK _ _ ?_; clear hK K))
      refine bodyPost_ret (results_none rfl _ _ _) rfl ?_
      have HN := hO.out.push (hB.alloc hz _) hc4.out hO4.out hg4.out (fun b hb => by cases hb; exact hat4.out)
      refine ⟨rfl, _, c1, ?_, HN.2⟩
      rw [e1.out]
      exact HN.1
end Go.Proofs.Ytifakbipdmceiaa
